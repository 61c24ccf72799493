/- What each function asks, reckoned out of its text; printed by a program of mine (wip/tpl/VcTool.lean). No condition. -/
import Derived.Test.YtnkeghnnppoopaaDoorSxB
import Derived.Test.YtnkeghnnppoopaaDoorChecked
namespace Go.Proofs.YtnkeghnnppoopaaDoor
open Go Go.Proofs
set_option linter.unusedVariables false
set_option maxRecDepth 100000
theorem vc7 {W : World} {Q : Ending → World → Prop} (n : Int)
  (hVC :
    Calls Tryd.prog 8 #[Value.int IntKind.i64 n] W (fun e =>
     (fun W2 =>
     (∃ s : ByteArray, (e = Ending.returned (Value.string s) ∧
     ((↑(ByteArray.size (ByteArray.mk #[120]) + ByteArray.size s) : Int) ≤ 9223372036854775807 ∧
     (∀ s2 : ByteArray, (s2 = ByteArray.mk #[120] ++ s →
     Q (Ending.returned (Value.string s2)) W2)))))))) :
  Calls Tryd.prog 7 #[Value.int .i64 n] W Q :=
  Sx.sound Tryd.func7 .leaf [Value.int .i64 n] rfl (Eq.mp (by kernel_rfl) hVC)
theorem vc13 {W : World} {Q : Ending → World → Prop} (n : Int)
  (hVC :
    Calls Tryd.prog 14 #[Value.int IntKind.i64 n] W (fun e =>
     (fun W2 =>
     (∃ s : ByteArray, (e = Ending.returned (Value.string s) ∧
     ((↑(ByteArray.size (ByteArray.mk #[120]) + ByteArray.size s) : Int) ≤ 9223372036854775807 ∧
     (∀ s2 : ByteArray, (s2 = ByteArray.mk #[120] ++ s →
     Q (Ending.returned (Value.string s2)) W2)))))))) :
  Calls Tryd.prog 13 #[Value.int .i64 n] W Q :=
  Sx.sound Tryd.func13 .leaf [Value.int .i64 n] rfl (Eq.mp (by kernel_rfl) hVC)
theorem vc14 {W : World} {Q : Ending → World → Prop} (n : Int)
  (hVC :
    Sx.split (decide (n < 0))
     (Calls Tryd.prog 14 #[Value.int IntKind.i64 (IntKind.wrap IntKind.i64 (0 - n))] W (fun e =>
       (fun W2 =>
       (∃ s : ByteArray, (e = Ending.returned (Value.string s) ∧
       ((↑(ByteArray.size (ByteArray.mk #[45]) + ByteArray.size s) : Int) ≤ 9223372036854775807 ∧
       (∀ s2 : ByteArray, (s2 = ByteArray.mk #[45] ++ s →
       Q (Ending.returned (Value.string s2)) W2))))))))
     (Sx.split (decide (n < 10))
       ((∀ z : Int, (z = IntKind.wrap IntKind.i64 (n + 1) →
        ((0 : Int) ≤ n ∧
        ((0 : Int) ≤ z ∧
        ((Int.toNat n ≤ Int.toNat z ∧
         Int.toNat z ≤ ByteArray.size (ByteArray.mk #[48, 49, 50, 51, 52, 53, 54, 55, 56, 57])) ∧
        Q (Ending.returned (Value.string (ByteArray.extract (ByteArray.mk #[48, 49, 50, 51, 52, 53, 54, 55, 56, 57]) (Int.toNat n) (Int.toNat z)))) W))))))
       (((10 : Int) ≠ (0 : Int) ∧
        (∀ z2 : Int, (z2 = IntKind.wrap IntKind.i64 (Int.tdiv n 10) →
        Calls Tryd.prog 14 #[Value.int IntKind.i64 z2] W (fun e2 =>
         (fun W3 =>
         (∃ s3 : ByteArray, (e2 = Ending.returned (Value.string s3) ∧
         ((10 : Int) ≠ (0 : Int) ∧
         (∀ z3 : Int, (z3 = Int.tmod n 10 →
         ((10 : Int) ≠ (0 : Int) ∧
         (∀ z4 : Int, (z4 = Int.tmod n 10 →
         (∀ z5 : Int, (z5 = IntKind.wrap IntKind.i64 (z4 + 1) →
         ((0 : Int) ≤ z3 ∧
         ((0 : Int) ≤ z5 ∧
         ((Int.toNat z3 ≤ Int.toNat z5 ∧
          Int.toNat z5 ≤ ByteArray.size (ByteArray.mk #[48, 49, 50, 51, 52, 53, 54, 55, 56, 57])) ∧
         ((↑(ByteArray.size s3 + ByteArray.size (ByteArray.extract (ByteArray.mk #[48, 49, 50, 51, 52, 53, 54, 55, 56, 57]) (Int.toNat z3) (Int.toNat z5))) : Int) ≤ 9223372036854775807 ∧
         (∀ s4 : ByteArray, (s4 = s3 ++ ByteArray.extract (ByteArray.mk #[48, 49, 50, 51, 52, 53, 54, 55, 56, 57]) (Int.toNat z3) (Int.toNat z5) →
         Q (Ending.returned (Value.string s4)) W3)))))))))))))))))))))))) :
  Calls Tryd.prog 14 #[Value.int .i64 n] W Q :=
  Sx.sound Tryd.func14 .leaf [Value.int .i64 n] rfl (Eq.mp (by kernel_rfl) hVC)
theorem vc4 {W : World} {Q : Ending → World → Prop} (arg0 : Array Value)
  (hVC :
    (∀ k : Nat, (∀ W2 : World, (k = Array.size (World.heap W) →
    (W2 = World.alloc W (Obj.cells (Value.cells (Value.agg arg0)) 25) →
    (∃ vs : Array Value, (Array.size vs = 5 ∧
    (Sx.cellsAt W2 (Addr.mk k 0 none) vs ∧
    Calls Tryd.prog 6 #[Value.agg vs] W2 (fun e =>
     (fun W3 =>
     (∃ z : Int, (∃ t : Bool, (e = Ending.returned (Value.tuple #[Value.int IntKind.u32 z, Value.bool t]) ∧
     Sx.split (!t)
      (Q (Ending.returned (Value.string (ByteArray.mk #[]))) W3)
      ((∀ W4 : World, (W4 = World.drew W3 →
       (∃ z2 : Int, (World.cell? W4 (Addr.mk k (0 + 1) none) = some (Value.int IntKind.i64 z2) ∧
       (∃ z3 : Int, (World.cell? W4 (Addr.mk k (0 + 2) none) = some (Value.int IntKind.i64 z3) ∧
       (∃ z4 : Int, (World.cell? W4 (Addr.mk k (0 + 3) none) = some (Value.int IntKind.i64 z4) ∧
       (∃ z5 : Int, (World.cell? W4 (Addr.mk k (0 + 4) none) = some (Value.int IntKind.i64 z5) ∧
       Calls Tryd.prog 7 #[Value.int IntKind.i64 z2] W4 (fun e2 =>
        (fun W5 =>
        (∃ s : ByteArray, (e2 = Ending.returned (Value.string s) ∧
        (RowKit.Below (Array.size (World.heap W4)) W4 W5 ∧
        Calls Tryd.prog 7 #[Value.int IntKind.i64 z3] W5 (fun e3 =>
         (fun W6 =>
         (∃ s2 : ByteArray, (e3 = Ending.returned (Value.string s2) ∧
         (RowKit.Below (Array.size (World.heap W4)) W4 W6 ∧
         Calls Tryd.prog 7 #[Value.int IntKind.i64 z4] W6 (fun e4 =>
          (fun W7 =>
          (∃ s3 : ByteArray, (e4 = Ending.returned (Value.string s3) ∧
          (RowKit.Below (Array.size (World.heap W4)) W4 W7 ∧
          Calls Tryd.prog 8 #[Value.int IntKind.i64 z5] W7 (fun e5 =>
           (fun W8 =>
           (∃ s4 : ByteArray, (e5 = Ending.returned (Value.string s4) ∧
           (∃ z6 : Int, (World.cell? W8 (Addr.mk k 0 none) = some (Value.int IntKind.i64 z6) ∧
           (((0 : Int) ≤ z6 ∧
            z6 < (↑68 : Int)) ∧
           (∃ s5 : ByteArray, (World.cell? W8 (Addr.mk 0 (0 + Int.toNat z6 * 1) none) = some (Value.string s5) ∧
           (∃ z7 : Int, (World.cell? W8 (Addr.mk k 0 none) = some (Value.int IntKind.i64 z7) ∧
           Calls Tryd.prog 9 #[Value.int IntKind.i64 z7] W8 (fun e6 =>
            (fun W9 =>
            (∃ z8 : Int, (e6 = Ending.returned (Value.int IntKind.i64 z8) ∧
            Sx.split (z8 == 4)
             (((↑(ByteArray.size s5 + ByteArray.size (ByteArray.mk #[32])) : Int) ≤ 9223372036854775807 ∧
              (∀ s6 : ByteArray, (s6 = s5 ++ ByteArray.mk #[32] →
              ((↑(ByteArray.size s6 + ByteArray.size s) : Int) ≤ 9223372036854775807 ∧
              (∀ s7 : ByteArray, (s7 = s6 ++ s →
              ((↑(ByteArray.size s7 + ByteArray.size (ByteArray.mk #[44, 32])) : Int) ≤ 9223372036854775807 ∧
              (∀ s8 : ByteArray, (s8 = s7 ++ ByteArray.mk #[44, 32] →
              ((↑(ByteArray.size s8 + ByteArray.size s4) : Int) ≤ 9223372036854775807 ∧
              (∀ s9 : ByteArray, (s9 = s8 ++ s4 →
              ((↑(ByteArray.size s9 + ByteArray.size (ByteArray.mk #[40])) : Int) ≤ 9223372036854775807 ∧
              (∀ s10 : ByteArray, (s10 = s9 ++ ByteArray.mk #[40] →
              ((↑(ByteArray.size s10 + ByteArray.size s2) : Int) ≤ 9223372036854775807 ∧
              (∀ s11 : ByteArray, (s11 = s10 ++ s2 →
              ((↑(ByteArray.size s11 + ByteArray.size (ByteArray.mk #[41])) : Int) ≤ 9223372036854775807 ∧
              (∀ s12 : ByteArray, (s12 = s11 ++ ByteArray.mk #[41] →
              Q (Ending.returned (Value.string s12)) W9))))))))))))))))))))))
             (Sx.split (z8 == 5)
               (((↑(ByteArray.size s5 + ByteArray.size (ByteArray.mk #[32])) : Int) ≤ 9223372036854775807 ∧
                (∀ s13 : ByteArray, (s13 = s5 ++ ByteArray.mk #[32] →
                ((↑(ByteArray.size s13 + ByteArray.size s3) : Int) ≤ 9223372036854775807 ∧
                (∀ s14 : ByteArray, (s14 = s13 ++ s3 →
                ((↑(ByteArray.size s14 + ByteArray.size (ByteArray.mk #[44, 32])) : Int) ≤ 9223372036854775807 ∧
                (∀ s15 : ByteArray, (s15 = s14 ++ ByteArray.mk #[44, 32] →
                ((↑(ByteArray.size s15 + ByteArray.size s4) : Int) ≤ 9223372036854775807 ∧
                (∀ s16 : ByteArray, (s16 = s15 ++ s4 →
                ((↑(ByteArray.size s16 + ByteArray.size (ByteArray.mk #[40])) : Int) ≤ 9223372036854775807 ∧
                (∀ s17 : ByteArray, (s17 = s16 ++ ByteArray.mk #[40] →
                ((↑(ByteArray.size s17 + ByteArray.size s2) : Int) ≤ 9223372036854775807 ∧
                (∀ s18 : ByteArray, (s18 = s17 ++ s2 →
                ((↑(ByteArray.size s18 + ByteArray.size (ByteArray.mk #[41])) : Int) ≤ 9223372036854775807 ∧
                (∀ s19 : ByteArray, (s19 = s18 ++ ByteArray.mk #[41] →
                Q (Ending.returned (Value.string s19)) W9))))))))))))))))))))))
               (Sx.split (z8 == 2)
                 (((↑(ByteArray.size s5 + ByteArray.size (ByteArray.mk #[32])) : Int) ≤ 9223372036854775807 ∧
                  (∀ s20 : ByteArray, (s20 = s5 ++ ByteArray.mk #[32] →
                  ((↑(ByteArray.size s20 + ByteArray.size s2) : Int) ≤ 9223372036854775807 ∧
                  (∀ s21 : ByteArray, (s21 = s20 ++ s2 →
                  ((↑(ByteArray.size s21 + ByteArray.size (ByteArray.mk #[44, 32])) : Int) ≤ 9223372036854775807 ∧
                  (∀ s22 : ByteArray, (s22 = s21 ++ ByteArray.mk #[44, 32] →
                  ((↑(ByteArray.size s22 + ByteArray.size s3) : Int) ≤ 9223372036854775807 ∧
                  (∀ s23 : ByteArray, (s23 = s22 ++ s3 →
                  ((↑(ByteArray.size s23 + ByteArray.size (ByteArray.mk #[44, 32])) : Int) ≤ 9223372036854775807 ∧
                  (∀ s24 : ByteArray, (s24 = s23 ++ ByteArray.mk #[44, 32] →
                  ((↑(ByteArray.size s24 + ByteArray.size s4) : Int) ≤ 9223372036854775807 ∧
                  (∀ s25 : ByteArray, (s25 = s24 ++ s4 →
                  Q (Ending.returned (Value.string s25)) W9)))))))))))))))))))
                 (Sx.split (z8 == 3)
                   ((∃ z9 : Int, (World.cell? W9 (Addr.mk k 0 none) = some (Value.int IntKind.i64 z9) ∧
                    Sx.split (z9 == 3)
                     (((↑(ByteArray.size s5 + ByteArray.size (ByteArray.mk #[32])) : Int) ≤ 9223372036854775807 ∧
                      (∀ s26 : ByteArray, (s26 = s5 ++ ByteArray.mk #[32] →
                      ((↑(ByteArray.size s26 + ByteArray.size s) : Int) ≤ 9223372036854775807 ∧
                      (∀ s27 : ByteArray, (s27 = s26 ++ s →
                      ((↑(ByteArray.size s27 + ByteArray.size (ByteArray.mk #[44, 32])) : Int) ≤ 9223372036854775807 ∧
                      (∀ s28 : ByteArray, (s28 = s27 ++ ByteArray.mk #[44, 32] →
                      ((↑(ByteArray.size s28 + ByteArray.size s4) : Int) ≤ 9223372036854775807 ∧
                      (∀ s29 : ByteArray, (s29 = s28 ++ s4 →
                      Q (Ending.returned (Value.string s29)) W9)))))))))))))
                     (((↑(ByteArray.size s5 + ByteArray.size (ByteArray.mk #[32])) : Int) ≤ 9223372036854775807 ∧
                      (∀ s30 : ByteArray, (s30 = s5 ++ ByteArray.mk #[32] →
                      ((↑(ByteArray.size s30 + ByteArray.size s) : Int) ≤ 9223372036854775807 ∧
                      (∀ s31 : ByteArray, (s31 = s30 ++ s →
                      ((↑(ByteArray.size s31 + ByteArray.size (ByteArray.mk #[44, 32])) : Int) ≤ 9223372036854775807 ∧
                      (∀ s32 : ByteArray, (s32 = s31 ++ ByteArray.mk #[44, 32] →
                      ((↑(ByteArray.size s32 + ByteArray.size s4) : Int) ≤ 9223372036854775807 ∧
                      (∀ s33 : ByteArray, (s33 = s32 ++ s4 →
                      ((↑(ByteArray.size s33 + ByteArray.size (ByteArray.mk #[40])) : Int) ≤ 9223372036854775807 ∧
                      (∀ s34 : ByteArray, (s34 = s33 ++ ByteArray.mk #[40] →
                      ((↑(ByteArray.size s34 + ByteArray.size s2) : Int) ≤ 9223372036854775807 ∧
                      (∀ s35 : ByteArray, (s35 = s34 ++ s2 →
                      ((↑(ByteArray.size s35 + ByteArray.size (ByteArray.mk #[41])) : Int) ≤ 9223372036854775807 ∧
                      (∀ s36 : ByteArray, (s36 = s35 ++ ByteArray.mk #[41] →
                      Q (Ending.returned (Value.string s36)) W9)))))))))))))))))))))))))
                   (Sx.split (z8 == 6)
                     ((∃ z10 : Int, (World.cell? W9 (Addr.mk k (0 + 4) none) = some (Value.int IntKind.i64 z10) ∧
                      (((0 : Int) ≤ z10 ∧
                       z10 < (↑4 : Int)) ∧
                      (∃ s37 : ByteArray, (World.cell? W9 (Addr.mk 1 (0 + Int.toNat z10 * 1) none) = some (Value.string s37) ∧
                      ((↑(ByteArray.size s5 + ByteArray.size s37) : Int) ≤ 9223372036854775807 ∧
                      (∀ s38 : ByteArray, (s38 = s5 ++ s37 →
                      (∃ z11 : Int, (World.cell? W9 (Addr.mk k 0 none) = some (Value.int IntKind.i64 z11) ∧
                      Sx.split (z11 == 46)
                       (((↑(ByteArray.size s38 + ByteArray.size (ByteArray.mk #[32])) : Int) ≤ 9223372036854775807 ∧
                        (∀ s39 : ByteArray, (s39 = s38 ++ ByteArray.mk #[32] →
                        ((↑(ByteArray.size s39 + ByteArray.size s) : Int) ≤ 9223372036854775807 ∧
                        (∀ s40 : ByteArray, (s40 = s39 ++ s →
                        ((↑(ByteArray.size s40 + ByteArray.size (ByteArray.mk #[44, 32, 40])) : Int) ≤ 9223372036854775807 ∧
                        (∀ s41 : ByteArray, (s41 = s40 ++ ByteArray.mk #[44, 32, 40] →
                        ((↑(ByteArray.size s41 + ByteArray.size s2) : Int) ≤ 9223372036854775807 ∧
                        (∀ s42 : ByteArray, (s42 = s41 ++ s2 →
                        ((↑(ByteArray.size s42 + ByteArray.size (ByteArray.mk #[41])) : Int) ≤ 9223372036854775807 ∧
                        (∀ s43 : ByteArray, (s43 = s42 ++ ByteArray.mk #[41] →
                        Q (Ending.returned (Value.string s43)) W9))))))))))))))))
                       (((↑(ByteArray.size s38 + ByteArray.size (ByteArray.mk #[32])) : Int) ≤ 9223372036854775807 ∧
                        (∀ s44 : ByteArray, (s44 = s38 ++ ByteArray.mk #[32] →
                        ((↑(ByteArray.size s44 + ByteArray.size s) : Int) ≤ 9223372036854775807 ∧
                        (∀ s45 : ByteArray, (s45 = s44 ++ s →
                        ((↑(ByteArray.size s45 + ByteArray.size (ByteArray.mk #[44, 32])) : Int) ≤ 9223372036854775807 ∧
                        (∀ s46 : ByteArray, (s46 = s45 ++ ByteArray.mk #[44, 32] →
                        ((↑(ByteArray.size s46 + ByteArray.size s3) : Int) ≤ 9223372036854775807 ∧
                        (∀ s47 : ByteArray, (s47 = s46 ++ s3 →
                        ((↑(ByteArray.size s47 + ByteArray.size (ByteArray.mk #[44, 32, 40])) : Int) ≤ 9223372036854775807 ∧
                        (∀ s48 : ByteArray, (s48 = s47 ++ ByteArray.mk #[44, 32, 40] →
                        ((↑(ByteArray.size s48 + ByteArray.size s2) : Int) ≤ 9223372036854775807 ∧
                        (∀ s49 : ByteArray, (s49 = s48 ++ s2 →
                        ((↑(ByteArray.size s49 + ByteArray.size (ByteArray.mk #[41])) : Int) ≤ 9223372036854775807 ∧
                        (∀ s50 : ByteArray, (s50 = s49 ++ ByteArray.mk #[41] →
                        Q (Ending.returned (Value.string s50)) W9)))))))))))))))))))))))))))))))))
                     (Sx.split (z8 == 7)
                       ((∃ z12 : Int, (World.cell? W9 (Addr.mk k 0 none) = some (Value.int IntKind.i64 z12) ∧
                        Sx.split (decide (z12 ≥ 65))
                         (((↑(ByteArray.size s5 + ByteArray.size (ByteArray.mk #[32])) : Int) ≤ 9223372036854775807 ∧
                          (∀ s51 : ByteArray, (s51 = s5 ++ ByteArray.mk #[32] →
                          ((↑(ByteArray.size s51 + ByteArray.size s) : Int) ≤ 9223372036854775807 ∧
                          (∀ s52 : ByteArray, (s52 = s51 ++ s →
                          ((↑(ByteArray.size s52 + ByteArray.size (ByteArray.mk #[44, 32])) : Int) ≤ 9223372036854775807 ∧
                          (∀ s53 : ByteArray, (s53 = s52 ++ ByteArray.mk #[44, 32] →
                          ((↑(ByteArray.size s53 + ByteArray.size s4) : Int) ≤ 9223372036854775807 ∧
                          (∀ s54 : ByteArray, (s54 = s53 ++ s4 →
                          ((↑(ByteArray.size s54 + ByteArray.size (ByteArray.mk #[44, 32])) : Int) ≤ 9223372036854775807 ∧
                          (∀ s55 : ByteArray, (s55 = s54 ++ ByteArray.mk #[44, 32] →
                          (∃ z13 : Int, (World.cell? W9 (Addr.mk k (0 + 2) none) = some (Value.int IntKind.i64 z13) ∧
                          Calls Tryd.prog 8 #[Value.int IntKind.i64 z13] W9 (fun e7 =>
                           (fun W10 =>
                           (∃ s56 : ByteArray, (e7 = Ending.returned (Value.string s56) ∧
                           ((↑(ByteArray.size s55 + ByteArray.size s56) : Int) ≤ 9223372036854775807 ∧
                           (∀ s57 : ByteArray, (s57 = s55 ++ s56 →
                           Q (Ending.returned (Value.string s57)) W10)))))))))))))))))))))))))
                         ((∃ z14 : Int, (World.cell? W9 (Addr.mk k 0 none) = some (Value.int IntKind.i64 z14) ∧
                          Sx.split (decide (z14 ≥ 62))
                           (((↑(ByteArray.size s5 + ByteArray.size (ByteArray.mk #[32])) : Int) ≤ 9223372036854775807 ∧
                            (∀ s58 : ByteArray, (s58 = s5 ++ ByteArray.mk #[32] →
                            ((↑(ByteArray.size s58 + ByteArray.size s) : Int) ≤ 9223372036854775807 ∧
                            (∀ s59 : ByteArray, (s59 = s58 ++ s →
                            ((↑(ByteArray.size s59 + ByteArray.size (ByteArray.mk #[44, 32])) : Int) ≤ 9223372036854775807 ∧
                            (∀ s60 : ByteArray, (s60 = s59 ++ ByteArray.mk #[44, 32] →
                            ((↑(ByteArray.size s60 + ByteArray.size s4) : Int) ≤ 9223372036854775807 ∧
                            (∀ s61 : ByteArray, (s61 = s60 ++ s4 →
                            ((↑(ByteArray.size s61 + ByteArray.size (ByteArray.mk #[44, 32])) : Int) ≤ 9223372036854775807 ∧
                            (∀ s62 : ByteArray, (s62 = s61 ++ ByteArray.mk #[44, 32] →
                            ((↑(ByteArray.size s62 + ByteArray.size s2) : Int) ≤ 9223372036854775807 ∧
                            (∀ s63 : ByteArray, (s63 = s62 ++ s2 →
                            Q (Ending.returned (Value.string s63)) W9)))))))))))))))))))
                           ((∃ z15 : Int, (World.cell? W9 (Addr.mk k 0 none) = some (Value.int IntKind.i64 z15) ∧
                            Sx.split (z15 == 57)
                             (((↑(ByteArray.size s5 + ByteArray.size (ByteArray.mk #[32])) : Int) ≤ 9223372036854775807 ∧
                              (∀ s64 : ByteArray, (s64 = s5 ++ ByteArray.mk #[32] →
                              ((↑(ByteArray.size s64 + ByteArray.size s4) : Int) ≤ 9223372036854775807 ∧
                              (∀ s65 : ByteArray, (s65 = s64 ++ s4 →
                              Q (Ending.returned (Value.string s65)) W9)))))))
                             (Q (Ending.returned (Value.string s5)) W9))))))))))
                       ((∃ z16 : Int, (World.cell? W9 (Addr.mk k 0 none) = some (Value.int IntKind.i64 z16) ∧
                        Calls Tryd.prog 10 #[Value.int IntKind.i64 z16] W9 (fun e8 =>
                         (fun W11 =>
                         (∃ t2 : Bool, (∃ t3 : Bool, (e8 = Ending.returned (Value.tuple #[Value.bool t2, Value.bool t3]) ∧
                         (∃ z17 : Int, (World.cell? W11 (Addr.mk k 0 none) = some (Value.int IntKind.i64 z17) ∧
                         Sx.split (z17 == 1)
                          (((↑(ByteArray.size s5 + ByteArray.size (ByteArray.mk #[32])) : Int) ≤ 9223372036854775807 ∧
                           (∀ s66 : ByteArray, (s66 = s5 ++ ByteArray.mk #[32] →
                           ((↑(ByteArray.size s66 + ByteArray.size s) : Int) ≤ 9223372036854775807 ∧
                           (∀ s67 : ByteArray, (s67 = s66 ++ s →
                           ((↑(ByteArray.size s67 + ByteArray.size (ByteArray.mk #[44, 32])) : Int) ≤ 9223372036854775807 ∧
                           (∀ s68 : ByteArray, (s68 = s67 ++ ByteArray.mk #[44, 32] →
                           ((↑(ByteArray.size s68 + ByteArray.size s4) : Int) ≤ 9223372036854775807 ∧
                           (∀ s69 : ByteArray, (s69 = s68 ++ s4 →
                           Q (Ending.returned (Value.string s69)) W11)))))))))))))
                          ((∃ z18 : Int, (World.cell? W11 (Addr.mk k 0 none) = some (Value.int IntKind.i64 z18) ∧
                           Sx.split (z18 == 2)
                            (((↑(ByteArray.size s5 + ByteArray.size (ByteArray.mk #[32])) : Int) ≤ 9223372036854775807 ∧
                             (∀ s70 : ByteArray, (s70 = s5 ++ ByteArray.mk #[32] →
                             ((↑(ByteArray.size s70 + ByteArray.size s) : Int) ≤ 9223372036854775807 ∧
                             (∀ s71 : ByteArray, (s71 = s70 ++ s →
                             ((↑(ByteArray.size s71 + ByteArray.size (ByteArray.mk #[44, 32])) : Int) ≤ 9223372036854775807 ∧
                             (∀ s72 : ByteArray, (s72 = s71 ++ ByteArray.mk #[44, 32] →
                             ((↑(ByteArray.size s72 + ByteArray.size s4) : Int) ≤ 9223372036854775807 ∧
                             (∀ s73 : ByteArray, (s73 = s72 ++ s4 →
                             Q (Ending.returned (Value.string s73)) W11)))))))))))))
                            (Sx.split t3
                              (((↑(ByteArray.size s5 + ByteArray.size (ByteArray.mk #[32])) : Int) ≤ 9223372036854775807 ∧
                               (∀ s74 : ByteArray, (s74 = s5 ++ ByteArray.mk #[32] →
                               ((↑(ByteArray.size s74 + ByteArray.size s) : Int) ≤ 9223372036854775807 ∧
                               (∀ s75 : ByteArray, (s75 = s74 ++ s →
                               ((↑(ByteArray.size s75 + ByteArray.size (ByteArray.mk #[44, 32])) : Int) ≤ 9223372036854775807 ∧
                               (∀ s76 : ByteArray, (s76 = s75 ++ ByteArray.mk #[44, 32] →
                               ((↑(ByteArray.size s76 + ByteArray.size s2) : Int) ≤ 9223372036854775807 ∧
                               (∀ s77 : ByteArray, (s77 = s76 ++ s2 →
                               ((↑(ByteArray.size s77 + ByteArray.size (ByteArray.mk #[44, 32])) : Int) ≤ 9223372036854775807 ∧
                               (∀ s78 : ByteArray, (s78 = s77 ++ ByteArray.mk #[44, 32] →
                               ((↑(ByteArray.size s78 + ByteArray.size s3) : Int) ≤ 9223372036854775807 ∧
                               (∀ s79 : ByteArray, (s79 = s78 ++ s3 →
                               Q (Ending.returned (Value.string s79)) W11)))))))))))))))))))
                              (((↑(ByteArray.size s5 + ByteArray.size (ByteArray.mk #[32])) : Int) ≤ 9223372036854775807 ∧
                               (∀ s80 : ByteArray, (s80 = s5 ++ ByteArray.mk #[32] →
                               ((↑(ByteArray.size s80 + ByteArray.size s) : Int) ≤ 9223372036854775807 ∧
                               (∀ s81 : ByteArray, (s81 = s80 ++ s →
                               ((↑(ByteArray.size s81 + ByteArray.size (ByteArray.mk #[44, 32])) : Int) ≤ 9223372036854775807 ∧
                               (∀ s82 : ByteArray, (s82 = s81 ++ ByteArray.mk #[44, 32] →
                               ((↑(ByteArray.size s82 + ByteArray.size s2) : Int) ≤ 9223372036854775807 ∧
                               (∀ s83 : ByteArray, (s83 = s82 ++ s2 →
                               ((↑(ByteArray.size s83 + ByteArray.size (ByteArray.mk #[44, 32])) : Int) ≤ 9223372036854775807 ∧
                               (∀ s84 : ByteArray, (s84 = s83 ++ ByteArray.mk #[44, 32] →
                               ((↑(ByteArray.size s84 + ByteArray.size s4) : Int) ≤ 9223372036854775807 ∧
                               (∀ s85 : ByteArray, (s85 = s84 ++ s4 →
                               Q (Ending.returned (Value.string s85)) W11)))))))))))))))))))))))))))))))))))))))))))))))))))))))))))))))))))))))))))))))))))))))))))) :
  Calls Tryd.prog 4 #[Value.agg arg0] W Q :=
  Sx.sound Tryd.func4 (.node [] [] 0 .leaf (.node [] [] 0 .leaf (.node [] [] 0 .leaf (.node [] [] 0 (.node [] [] 1015 .leaf .leaf) .leaf)))) [Value.agg arg0] rfl (Eq.mp (by kernel_rfl) hVC)
theorem vc5 {W : World} {Q : Ending → World → Prop} (arg0 : Array Value)
  (hVC :
    (∀ k : Nat, (∀ W2 : World, (k = Array.size (World.heap W) →
    (W2 = World.alloc W (Obj.cells (Value.cells (Value.agg arg0)) 28) →
    (∃ vs : Array Value, (Array.size vs = 5 ∧
    (Sx.cellsAt W2 (Addr.mk k 0 none) vs ∧
    Calls Tryd.prog 11 #[Value.agg vs] W2 (fun e =>
     (fun W3 =>
     (∃ z : Int, (∃ t : Bool, (e = Ending.returned (Value.tuple #[Value.int IntKind.u32 z, Value.bool t]) ∧
     Sx.split (!t)
      (Q (Ending.returned (Value.string (ByteArray.mk #[]))) W3)
      (Calls Tryd.prog 12 #[] W3 (fun e2 =>
        (fun W4 =>
        (∃ p : Option Addr, (∃ k2 : Nat, (∃ k3 : Nat, (e2 = Ending.returned (Value.slice p k2 k3) ∧
        (∃ z2 : Int, (World.cell? W4 (Addr.mk k 0 none) = some (Value.int IntKind.i64 z2) ∧
        (∀ z3 : Int, (z3 = IntKind.wrap IntKind.i64 (z2 - 1) →
        (((0 : Int) ≤ z3 ∧
         z3 < (↑k2 : Int)) ∧
        Sx.adr p (fun k4 =>
         (fun k5 =>
         (∃ vs2 : Array Value, (Array.size vs2 = 5 ∧
         (Sx.cellsAt W4 (Addr.mk k4 (k5 + Int.toNat z3 * 5) none) vs2 ∧
         (∀ k6 : Nat, (∀ W5 : World, (k6 = Array.size (World.heap W4) →
         (W5 = World.alloc W4 (Obj.cells #[Value.string (ByteArray.mk #[]), Value.int IntKind.u8 0, Value.int IntKind.i64 0, Value.int IntKind.i64 0, Value.int IntKind.i64 0] 44) →
         (Array.size vs2 = 5 ∧
         ((∀ k7 : Nat, (k7 < 5 →
          ((∃ v : Value, World.cell? W5 (Addr.mk k6 (0 + k7) none) = some v) ∧
          World.frozen? W5 (Addr.mk k6 (0 + k7) none) = false))) ∧
         ((∀ v2 : Value, (v2 ∈ Array.toList vs2 →
          Value.oneCell' v2 = true)) ∧
         (∀ W6 : World, (W6 = World.setCells W5 k6 0 (Array.toList vs2) →
         (∃ z4 : Int, (World.cell? W6 (Addr.mk k (0 + 1) none) = some (Value.int IntKind.i64 z4) ∧
         Calls Tryd.prog 13 #[Value.int IntKind.i64 z4] W6 (fun e3 =>
          (fun W7 =>
          (∃ s : ByteArray, (e3 = Ending.returned (Value.string s) ∧
          (∃ z5 : Int, (World.cell? W7 (Addr.mk k (0 + 2) none) = some (Value.int IntKind.i64 z5) ∧
          Calls Tryd.prog 13 #[Value.int IntKind.i64 z5] W7 (fun e4 =>
           (fun W8 =>
           (∃ s2 : ByteArray, (e4 = Ending.returned (Value.string s2) ∧
           (∃ z6 : Int, (World.cell? W8 (Addr.mk k (0 + 3) none) = some (Value.int IntKind.i64 z6) ∧
           Calls Tryd.prog 13 #[Value.int IntKind.i64 z6] W8 (fun e5 =>
            (fun W9 =>
            (∃ s3 : ByteArray, (e5 = Ending.returned (Value.string s3) ∧
            (∃ z7 : Int, (World.cell? W9 (Addr.mk k (0 + 4) none) = some (Value.int IntKind.i64 z7) ∧
            Calls Tryd.prog 14 #[Value.int IntKind.i64 z7] W9 (fun e6 =>
             (fun W10 =>
             (∃ s4 : ByteArray, (e6 = Ending.returned (Value.string s4) ∧
             (∃ z8 : Int, (World.cell? W10 (Addr.mk k (0 + 2) none) = some (Value.int IntKind.i64 z8) ∧
             Calls Tryd.prog 14 #[Value.int IntKind.i64 z8] W10 (fun e7 =>
              (fun W11 =>
              (∃ s5 : ByteArray, (e7 = Ending.returned (Value.string s5) ∧
              (∀ k8 : Nat, (∀ W12 : World, (k8 = Array.size (World.heap W11) →
              (W12 = World.alloc W11 (Obj.cells #[Value.string (ByteArray.mk #[]), Value.string (ByteArray.mk #[46, 114, 108]), Value.string (ByteArray.mk #[46, 97, 113]), Value.string (ByteArray.mk #[46, 97, 113, 114, 108])] 9) →
              (∃ z9 : Int, (World.cell? W12 (Addr.mk k6 (0 + 1) none) = some (Value.int IntKind.u8 z9) ∧
              Sx.split (z9 == 85)
               ((∃ s6 : ByteArray, (World.cell? W12 (Addr.mk k6 0 none) = some (Value.string s6) ∧
                ((↑(ByteArray.size s6 + ByteArray.size (ByteArray.mk #[32])) : Int) ≤ 9223372036854775807 ∧
                (∀ s7 : ByteArray, (s7 = s6 ++ ByteArray.mk #[32] →
                ((↑(ByteArray.size s7 + ByteArray.size s) : Int) ≤ 9223372036854775807 ∧
                (∀ s8 : ByteArray, (s8 = s7 ++ s →
                ((↑(ByteArray.size s8 + ByteArray.size (ByteArray.mk #[44, 32])) : Int) ≤ 9223372036854775807 ∧
                (∀ s9 : ByteArray, (s9 = s8 ++ ByteArray.mk #[44, 32] →
                ((↑(ByteArray.size s9 + ByteArray.size s4) : Int) ≤ 9223372036854775807 ∧
                (∀ s10 : ByteArray, (s10 = s9 ++ s4 →
                Q (Ending.returned (Value.string s10)) W12)))))))))))))))
               (Sx.split (z9 == 74)
                 ((∃ s11 : ByteArray, (World.cell? W12 (Addr.mk k6 0 none) = some (Value.string s11) ∧
                  ((↑(ByteArray.size s11 + ByteArray.size (ByteArray.mk #[32])) : Int) ≤ 9223372036854775807 ∧
                  (∀ s12 : ByteArray, (s12 = s11 ++ ByteArray.mk #[32] →
                  ((↑(ByteArray.size s12 + ByteArray.size s) : Int) ≤ 9223372036854775807 ∧
                  (∀ s13 : ByteArray, (s13 = s12 ++ s →
                  ((↑(ByteArray.size s13 + ByteArray.size (ByteArray.mk #[44, 32])) : Int) ≤ 9223372036854775807 ∧
                  (∀ s14 : ByteArray, (s14 = s13 ++ ByteArray.mk #[44, 32] →
                  ((↑(ByteArray.size s14 + ByteArray.size s4) : Int) ≤ 9223372036854775807 ∧
                  (∀ s15 : ByteArray, (s15 = s14 ++ s4 →
                  Q (Ending.returned (Value.string s15)) W12)))))))))))))))
                 (Sx.split (z9 == 73)
                   ((∃ s16 : ByteArray, (World.cell? W12 (Addr.mk k6 0 none) = some (Value.string s16) ∧
                    ((↑(ByteArray.size s16 + ByteArray.size (ByteArray.mk #[32])) : Int) ≤ 9223372036854775807 ∧
                    (∀ s17 : ByteArray, (s17 = s16 ++ ByteArray.mk #[32] →
                    ((↑(ByteArray.size s17 + ByteArray.size s) : Int) ≤ 9223372036854775807 ∧
                    (∀ s18 : ByteArray, (s18 = s17 ++ s →
                    ((↑(ByteArray.size s18 + ByteArray.size (ByteArray.mk #[44, 32])) : Int) ≤ 9223372036854775807 ∧
                    (∀ s19 : ByteArray, (s19 = s18 ++ ByteArray.mk #[44, 32] →
                    ((↑(ByteArray.size s19 + ByteArray.size s2) : Int) ≤ 9223372036854775807 ∧
                    (∀ s20 : ByteArray, (s20 = s19 ++ s2 →
                    ((↑(ByteArray.size s20 + ByteArray.size (ByteArray.mk #[44, 32])) : Int) ≤ 9223372036854775807 ∧
                    (∀ s21 : ByteArray, (s21 = s20 ++ ByteArray.mk #[44, 32] →
                    ((↑(ByteArray.size s21 + ByteArray.size s4) : Int) ≤ 9223372036854775807 ∧
                    (∀ s22 : ByteArray, (s22 = s21 ++ s4 →
                    Q (Ending.returned (Value.string s22)) W12)))))))))))))))))))))
                   (Sx.split (z9 == 72)
                     ((∃ s23 : ByteArray, (World.cell? W12 (Addr.mk k6 0 none) = some (Value.string s23) ∧
                      ((↑(ByteArray.size s23 + ByteArray.size (ByteArray.mk #[32])) : Int) ≤ 9223372036854775807 ∧
                      (∀ s24 : ByteArray, (s24 = s23 ++ ByteArray.mk #[32] →
                      ((↑(ByteArray.size s24 + ByteArray.size s) : Int) ≤ 9223372036854775807 ∧
                      (∀ s25 : ByteArray, (s25 = s24 ++ s →
                      ((↑(ByteArray.size s25 + ByteArray.size (ByteArray.mk #[44, 32])) : Int) ≤ 9223372036854775807 ∧
                      (∀ s26 : ByteArray, (s26 = s25 ++ ByteArray.mk #[44, 32] →
                      ((↑(ByteArray.size s26 + ByteArray.size s2) : Int) ≤ 9223372036854775807 ∧
                      (∀ s27 : ByteArray, (s27 = s26 ++ s2 →
                      ((↑(ByteArray.size s27 + ByteArray.size (ByteArray.mk #[44, 32])) : Int) ≤ 9223372036854775807 ∧
                      (∀ s28 : ByteArray, (s28 = s27 ++ ByteArray.mk #[44, 32] →
                      ((↑(ByteArray.size s28 + ByteArray.size s4) : Int) ≤ 9223372036854775807 ∧
                      (∀ s29 : ByteArray, (s29 = s28 ++ s4 →
                      Q (Ending.returned (Value.string s29)) W12)))))))))))))))))))))
                     (Sx.split (z9 == 76)
                       ((∃ s30 : ByteArray, (World.cell? W12 (Addr.mk k6 0 none) = some (Value.string s30) ∧
                        ((↑(ByteArray.size s30 + ByteArray.size (ByteArray.mk #[32])) : Int) ≤ 9223372036854775807 ∧
                        (∀ s31 : ByteArray, (s31 = s30 ++ ByteArray.mk #[32] →
                        ((↑(ByteArray.size s31 + ByteArray.size s) : Int) ≤ 9223372036854775807 ∧
                        (∀ s32 : ByteArray, (s32 = s31 ++ s →
                        ((↑(ByteArray.size s32 + ByteArray.size (ByteArray.mk #[44, 32])) : Int) ≤ 9223372036854775807 ∧
                        (∀ s33 : ByteArray, (s33 = s32 ++ ByteArray.mk #[44, 32] →
                        ((↑(ByteArray.size s33 + ByteArray.size s4) : Int) ≤ 9223372036854775807 ∧
                        (∀ s34 : ByteArray, (s34 = s33 ++ s4 →
                        ((↑(ByteArray.size s34 + ByteArray.size (ByteArray.mk #[40])) : Int) ≤ 9223372036854775807 ∧
                        (∀ s35 : ByteArray, (s35 = s34 ++ ByteArray.mk #[40] →
                        ((↑(ByteArray.size s35 + ByteArray.size s2) : Int) ≤ 9223372036854775807 ∧
                        (∀ s36 : ByteArray, (s36 = s35 ++ s2 →
                        ((↑(ByteArray.size s36 + ByteArray.size (ByteArray.mk #[41])) : Int) ≤ 9223372036854775807 ∧
                        (∀ s37 : ByteArray, (s37 = s36 ++ ByteArray.mk #[41] →
                        Q (Ending.returned (Value.string s37)) W12))))))))))))))))))))))))
                       (Sx.split (z9 == 67)
                         ((∃ s38 : ByteArray, (World.cell? W12 (Addr.mk k6 0 none) = some (Value.string s38) ∧
                          ((↑(ByteArray.size s38 + ByteArray.size (ByteArray.mk #[32])) : Int) ≤ 9223372036854775807 ∧
                          (∀ s39 : ByteArray, (s39 = s38 ++ ByteArray.mk #[32] →
                          ((↑(ByteArray.size s39 + ByteArray.size s) : Int) ≤ 9223372036854775807 ∧
                          (∀ s40 : ByteArray, (s40 = s39 ++ s →
                          ((↑(ByteArray.size s40 + ByteArray.size (ByteArray.mk #[44, 32])) : Int) ≤ 9223372036854775807 ∧
                          (∀ s41 : ByteArray, (s41 = s40 ++ ByteArray.mk #[44, 32] →
                          ((↑(ByteArray.size s41 + ByteArray.size s4) : Int) ≤ 9223372036854775807 ∧
                          (∀ s42 : ByteArray, (s42 = s41 ++ s4 →
                          ((↑(ByteArray.size s42 + ByteArray.size (ByteArray.mk #[44, 32])) : Int) ≤ 9223372036854775807 ∧
                          (∀ s43 : ByteArray, (s43 = s42 ++ ByteArray.mk #[44, 32] →
                          ((↑(ByteArray.size s43 + ByteArray.size s2) : Int) ≤ 9223372036854775807 ∧
                          (∀ s44 : ByteArray, (s44 = s43 ++ s2 →
                          Q (Ending.returned (Value.string s44)) W12)))))))))))))))))))))
                         (Sx.split (z9 == 68)
                           ((∃ s45 : ByteArray, (World.cell? W12 (Addr.mk k6 0 none) = some (Value.string s45) ∧
                            ((↑(ByteArray.size s45 + ByteArray.size (ByteArray.mk #[32])) : Int) ≤ 9223372036854775807 ∧
                            (∀ s46 : ByteArray, (s46 = s45 ++ ByteArray.mk #[32] →
                            ((↑(ByteArray.size s46 + ByteArray.size s) : Int) ≤ 9223372036854775807 ∧
                            (∀ s47 : ByteArray, (s47 = s46 ++ s →
                            ((↑(ByteArray.size s47 + ByteArray.size (ByteArray.mk #[44, 32])) : Int) ≤ 9223372036854775807 ∧
                            (∀ s48 : ByteArray, (s48 = s47 ++ ByteArray.mk #[44, 32] →
                            ((↑(ByteArray.size s48 + ByteArray.size s4) : Int) ≤ 9223372036854775807 ∧
                            (∀ s49 : ByteArray, (s49 = s48 ++ s4 →
                            ((↑(ByteArray.size s49 + ByteArray.size (ByteArray.mk #[44, 32])) : Int) ≤ 9223372036854775807 ∧
                            (∀ s50 : ByteArray, (s50 = s49 ++ ByteArray.mk #[44, 32] →
                            ((↑(ByteArray.size s50 + ByteArray.size s5) : Int) ≤ 9223372036854775807 ∧
                            (∀ s51 : ByteArray, (s51 = s50 ++ s5 →
                            Q (Ending.returned (Value.string s51)) W12)))))))))))))))))))))
                           (Sx.split (z9 == 66)
                             ((∃ s52 : ByteArray, (World.cell? W12 (Addr.mk k6 0 none) = some (Value.string s52) ∧
                              ((↑(ByteArray.size s52 + ByteArray.size (ByteArray.mk #[32])) : Int) ≤ 9223372036854775807 ∧
                              (∀ s53 : ByteArray, (s53 = s52 ++ ByteArray.mk #[32] →
                              ((↑(ByteArray.size s53 + ByteArray.size s2) : Int) ≤ 9223372036854775807 ∧
                              (∀ s54 : ByteArray, (s54 = s53 ++ s2 →
                              ((↑(ByteArray.size s54 + ByteArray.size (ByteArray.mk #[44, 32])) : Int) ≤ 9223372036854775807 ∧
                              (∀ s55 : ByteArray, (s55 = s54 ++ ByteArray.mk #[44, 32] →
                              ((↑(ByteArray.size s55 + ByteArray.size s3) : Int) ≤ 9223372036854775807 ∧
                              (∀ s56 : ByteArray, (s56 = s55 ++ s3 →
                              ((↑(ByteArray.size s56 + ByteArray.size (ByteArray.mk #[44, 32])) : Int) ≤ 9223372036854775807 ∧
                              (∀ s57 : ByteArray, (s57 = s56 ++ ByteArray.mk #[44, 32] →
                              ((↑(ByteArray.size s57 + ByteArray.size s4) : Int) ≤ 9223372036854775807 ∧
                              (∀ s58 : ByteArray, (s58 = s57 ++ s4 →
                              Q (Ending.returned (Value.string s58)) W12)))))))))))))))))))))
                             (Sx.split (z9 == 83)
                               ((∃ s59 : ByteArray, (World.cell? W12 (Addr.mk k6 0 none) = some (Value.string s59) ∧
                                ((↑(ByteArray.size s59 + ByteArray.size (ByteArray.mk #[32])) : Int) ≤ 9223372036854775807 ∧
                                (∀ s60 : ByteArray, (s60 = s59 ++ ByteArray.mk #[32] →
                                ((↑(ByteArray.size s60 + ByteArray.size s3) : Int) ≤ 9223372036854775807 ∧
                                (∀ s61 : ByteArray, (s61 = s60 ++ s3 →
                                ((↑(ByteArray.size s61 + ByteArray.size (ByteArray.mk #[44, 32])) : Int) ≤ 9223372036854775807 ∧
                                (∀ s62 : ByteArray, (s62 = s61 ++ ByteArray.mk #[44, 32] →
                                ((↑(ByteArray.size s62 + ByteArray.size s4) : Int) ≤ 9223372036854775807 ∧
                                (∀ s63 : ByteArray, (s63 = s62 ++ s4 →
                                ((↑(ByteArray.size s63 + ByteArray.size (ByteArray.mk #[40])) : Int) ≤ 9223372036854775807 ∧
                                (∀ s64 : ByteArray, (s64 = s63 ++ ByteArray.mk #[40] →
                                ((↑(ByteArray.size s64 + ByteArray.size s2) : Int) ≤ 9223372036854775807 ∧
                                (∀ s65 : ByteArray, (s65 = s64 ++ s2 →
                                ((↑(ByteArray.size s65 + ByteArray.size (ByteArray.mk #[41])) : Int) ≤ 9223372036854775807 ∧
                                (∀ s66 : ByteArray, (s66 = s65 ++ ByteArray.mk #[41] →
                                Q (Ending.returned (Value.string s66)) W12))))))))))))))))))))))))
                               (Sx.split (z9 == 82)
                                 ((∃ s67 : ByteArray, (World.cell? W12 (Addr.mk k6 0 none) = some (Value.string s67) ∧
                                  ((↑(ByteArray.size s67 + ByteArray.size (ByteArray.mk #[32])) : Int) ≤ 9223372036854775807 ∧
                                  (∀ s68 : ByteArray, (s68 = s67 ++ ByteArray.mk #[32] →
                                  ((↑(ByteArray.size s68 + ByteArray.size s) : Int) ≤ 9223372036854775807 ∧
                                  (∀ s69 : ByteArray, (s69 = s68 ++ s →
                                  ((↑(ByteArray.size s69 + ByteArray.size (ByteArray.mk #[44, 32])) : Int) ≤ 9223372036854775807 ∧
                                  (∀ s70 : ByteArray, (s70 = s69 ++ ByteArray.mk #[44, 32] →
                                  ((↑(ByteArray.size s70 + ByteArray.size s2) : Int) ≤ 9223372036854775807 ∧
                                  (∀ s71 : ByteArray, (s71 = s70 ++ s2 →
                                  ((↑(ByteArray.size s71 + ByteArray.size (ByteArray.mk #[44, 32])) : Int) ≤ 9223372036854775807 ∧
                                  (∀ s72 : ByteArray, (s72 = s71 ++ ByteArray.mk #[44, 32] →
                                  ((↑(ByteArray.size s72 + ByteArray.size s3) : Int) ≤ 9223372036854775807 ∧
                                  (∀ s73 : ByteArray, (s73 = s72 ++ s3 →
                                  Q (Ending.returned (Value.string s73)) W12)))))))))))))))))))))
                                 (Sx.split (z9 == 75)
                                   ((∃ s74 : ByteArray, (World.cell? W12 (Addr.mk k6 0 none) = some (Value.string s74) ∧
                                    (∃ z10 : Int, (World.cell? W12 (Addr.mk k (0 + 4) none) = some (Value.int IntKind.i64 z10) ∧
                                    (((0 : Int) ≤ z10 ∧
                                     z10 < (↑4 : Int)) ∧
                                    (∃ s75 : ByteArray, (World.cell? W12 (Addr.mk k8 (0 + Int.toNat z10 * 1) none) = some (Value.string s75) ∧
                                    ((↑(ByteArray.size s74 + ByteArray.size s75) : Int) ≤ 9223372036854775807 ∧
                                    (∀ s76 : ByteArray, (s76 = s74 ++ s75 →
                                    ((↑(ByteArray.size s76 + ByteArray.size (ByteArray.mk #[32])) : Int) ≤ 9223372036854775807 ∧
                                    (∀ s77 : ByteArray, (s77 = s76 ++ ByteArray.mk #[32] →
                                    ((↑(ByteArray.size s77 + ByteArray.size s) : Int) ≤ 9223372036854775807 ∧
                                    (∀ s78 : ByteArray, (s78 = s77 ++ s →
                                    ((↑(ByteArray.size s78 + ByteArray.size (ByteArray.mk #[44, 32, 40])) : Int) ≤ 9223372036854775807 ∧
                                    (∀ s79 : ByteArray, (s79 = s78 ++ ByteArray.mk #[44, 32, 40] →
                                    ((↑(ByteArray.size s79 + ByteArray.size s2) : Int) ≤ 9223372036854775807 ∧
                                    (∀ s80 : ByteArray, (s80 = s79 ++ s2 →
                                    ((↑(ByteArray.size s80 + ByteArray.size (ByteArray.mk #[41])) : Int) ≤ 9223372036854775807 ∧
                                    (∀ s81 : ByteArray, (s81 = s80 ++ ByteArray.mk #[41] →
                                    (∀ W13 : World, (∀ k9 : Nat, (W13 = World.drewN W12 k9 →
                                    Q (Ending.returned (Value.string s81)) W13)))))))))))))))))))))))))))))
                                   (Sx.split (z9 == 65)
                                     ((∃ s82 : ByteArray, (World.cell? W12 (Addr.mk k6 0 none) = some (Value.string s82) ∧
                                      (∃ z11 : Int, (World.cell? W12 (Addr.mk k (0 + 4) none) = some (Value.int IntKind.i64 z11) ∧
                                      (((0 : Int) ≤ z11 ∧
                                       z11 < (↑4 : Int)) ∧
                                      (∃ s83 : ByteArray, (World.cell? W12 (Addr.mk k8 (0 + Int.toNat z11 * 1) none) = some (Value.string s83) ∧
                                      ((↑(ByteArray.size s82 + ByteArray.size s83) : Int) ≤ 9223372036854775807 ∧
                                      (∀ s84 : ByteArray, (s84 = s82 ++ s83 →
                                      ((↑(ByteArray.size s84 + ByteArray.size (ByteArray.mk #[32])) : Int) ≤ 9223372036854775807 ∧
                                      (∀ s85 : ByteArray, (s85 = s84 ++ ByteArray.mk #[32] →
                                      ((↑(ByteArray.size s85 + ByteArray.size s) : Int) ≤ 9223372036854775807 ∧
                                      (∀ s86 : ByteArray, (s86 = s85 ++ s →
                                      ((↑(ByteArray.size s86 + ByteArray.size (ByteArray.mk #[44, 32])) : Int) ≤ 9223372036854775807 ∧
                                      (∀ s87 : ByteArray, (s87 = s86 ++ ByteArray.mk #[44, 32] →
                                      ((↑(ByteArray.size s87 + ByteArray.size s3) : Int) ≤ 9223372036854775807 ∧
                                      (∀ s88 : ByteArray, (s88 = s87 ++ s3 →
                                      ((↑(ByteArray.size s88 + ByteArray.size (ByteArray.mk #[44, 32, 40])) : Int) ≤ 9223372036854775807 ∧
                                      (∀ s89 : ByteArray, (s89 = s88 ++ ByteArray.mk #[44, 32, 40] →
                                      ((↑(ByteArray.size s89 + ByteArray.size s2) : Int) ≤ 9223372036854775807 ∧
                                      (∀ s90 : ByteArray, (s90 = s89 ++ s2 →
                                      ((↑(ByteArray.size s90 + ByteArray.size (ByteArray.mk #[41])) : Int) ≤ 9223372036854775807 ∧
                                      (∀ s91 : ByteArray, (s91 = s90 ++ ByteArray.mk #[41] →
                                      (∀ W14 : World, (∀ k10 : Nat, (W14 = World.drewN W12 k10 →
                                      Q (Ending.returned (Value.string s91)) W14)))))))))))))))))))))))))))))))))))
                                     (Sx.split (z9 == 70)
                                       ((∃ s92 : ByteArray, (World.cell? W12 (Addr.mk k6 0 none) = some (Value.string s92) ∧
                                        ((↑(ByteArray.size s92 + ByteArray.size (ByteArray.mk #[32])) : Int) ≤ 9223372036854775807 ∧
                                        (∀ s93 : ByteArray, (s93 = s92 ++ ByteArray.mk #[32] →
                                        ((↑(ByteArray.size s93 + ByteArray.size s4) : Int) ≤ 9223372036854775807 ∧
                                        (∀ s94 : ByteArray, (s94 = s93 ++ s4 →
                                        Q (Ending.returned (Value.string s94)) W12)))))))))
                                       ((∃ s95 : ByteArray, (World.cell? W12 (Addr.mk k6 0 none) = some (Value.string s95) ∧
                                        Q (Ending.returned (Value.string s95)) W12)))))))))))))))))))))))))))))))))))))))))))))))))))))))))))))))))))))))))))))))))))))))))) :
  Calls Tryd.prog 5 #[Value.agg arg0] W Q :=
  Sx.sound Tryd.func5 .leaf [Value.agg arg0] rfl (Eq.mp (by kernel_rfl) hVC)
theorem vc3 {W : World} {Q : Ending → World → Prop} (op : Int) (rd : Int) (rs1 : Int) (rs2 : Int) (imm : Int)
  (hVC :
    (∀ vs : Array Value, (vs = #[Value.int IntKind.i64 op, Value.int IntKind.i64 rd, Value.int IntKind.i64 rs1, Value.int IntKind.i64 rs2, Value.int IntKind.i64 imm] →
    Calls Tryd.prog 4 #[Value.agg vs] W (fun e =>
     (fun W2 =>
     (∃ s : ByteArray, (e = Ending.returned (Value.string s) ∧
     (∀ vs2 : Array Value, (vs2 = #[Value.int IntKind.i64 op, Value.int IntKind.i64 rd, Value.int IntKind.i64 rs1, Value.int IntKind.i64 rs2, Value.int IntKind.i64 imm] →
     Calls Tryd.prog 5 #[Value.agg vs2] W2 (fun e2 =>
      (fun W3 =>
      (∃ s2 : ByteArray, (e2 = Ending.returned (Value.string s2) ∧
      Q (Ending.returned (Value.bool (ByteArray.toList s == ByteArray.toList s2))) W3))))))))))))) :
  Calls Tryd.prog 3 #[Value.int .i64 op, Value.int .i64 rd, Value.int .i64 rs1, Value.int .i64 rs2, Value.int .i64 imm] W Q :=
  Sx.sound Tryd.func3 .leaf [Value.int .i64 op, Value.int .i64 rd, Value.int .i64 rs1, Value.int .i64 rs2, Value.int .i64 imm] rfl (Eq.mp (by kernel_rfl) hVC)
end Go.Proofs.YtnkeghnnppoopaaDoor
