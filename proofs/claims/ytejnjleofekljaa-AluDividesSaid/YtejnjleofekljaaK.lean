/- Part K: quotients and orders. -/
import Derived.Test.YtejnjleofekljaaJ
namespace Go.Proofs.Ytejnjleofekljaa
open Go.RowKit
set_option linter.unusedVariables false
theorem div_core (a b q r s t : Int) (h0 : 0 ≤ a) (h1 : a < 4294967296) (h2 : 0 < b) (h3 : b < 4294967296) (w : World)
    (cq : ∀ w, Calls Try.prog 13 #[.int .i64 43, .int .u32 a, .int .u32 b] w (IsU q w)) (cr : ∀ w, Calls Try.prog 13 #[.int .i64 45, .int .u32 a, .int .u32 b] w (IsU r w))
    (cs : ∀ w, Calls Try.prog 13 #[.int .i64 42, .int .u32 a, .int .u32 b] w (IsU s w)) (ct : ∀ w, Calls Try.prog 13 #[.int .i64 44, .int .u32 a, .int .u32 b] w (IsU t w))
    (cm : ∀ w, Calls Try.prog 13 #[.int .i64 38, .int .u32 q, .int .u32 b] w (IsU (q * b % 4294967296) w))
    (e1 : (q * b % 4294967296 + r) % 4294967296 = a) (e2 : (s * b % 4294967296 + t) % 4294967296 = a) (hr : r < b)
    (X Y Z : Int) (hX : wrap64 (wrap32 a) = X) (hY : wrap64 (wrap32 b) = Y) (hZ : wrap64 (wrap32 t) = Z) (bY : -2147483648 ≤ Y) (bZ : -2147483648 ≤ Z) (bY' : Y ≤ 2147483647) (bZ' : Z ≤ 2147483647)
    (hYZ : (0 < Y ∧ (0 ≤ Z ∧ Z < Y ∨ Z < 0 ∧ -Z < Y)) ∨ (Y < 0 ∧ (0 ≤ Z ∧ Z < -Y ∨ Z < 0 ∧ -Z < -Y))) (hXZ : (Z < 0 ∧ X < 0) ∨ Z = 0 ∨ (0 < Z ∧ 0 < X)) :
    Calls Try.prog 4 #[.int .u32 a, .int .u32 b] w fun e w' => e = .returned (.bool true) ∧ Grown w w' := by
  have hb : (b == 0) = false := by simp; omega
  have CQ := Lib.hid cq; have CR := Lib.hid cr; have CS := Lib.hid cs; have CT := Lib.hid ct; have CM := Lib.hid cm
  clear cq cr cs ct cm
  rcases hYZ with ⟨hy, ⟨z1, z2⟩ | ⟨z1, z2⟩⟩ | ⟨hy, ⟨z1, z2⟩ | ⟨z1, z2⟩⟩ <;> rcases hXZ with ⟨x1, x2⟩ | x1 | ⟨x1, x2⟩
  all_goals first | (exfalso; omega) | skip
  all_goals
    (try subst x1)
    go_enter Try.func4, Try.ntmps4
    go_wp2_with fail
    refine (CQ.out _).mono ?_
    rintro e w1 ⟨rfl, g1⟩
    have G1 := Lib.hid g1
    clear g1
    go_wp2_with fail
    refine (CR.out _).mono ?_
    rintro e w2 ⟨rfl, g2⟩
    have G2 := Lib.hid (grown_trans G1.out g2)
    clear g2
    go_wp2_with fail
    refine (CS.out _).mono ?_
    rintro e w3 ⟨rfl, g3⟩
    have G3 := Lib.hid (grown_trans G2.out g3)
    clear g3
    go_wp2_with fail
    refine (CT.out _).mono ?_
    rintro e w4 ⟨rfl, g4⟩
    have G4 := Lib.hid (grown_trans G3.out g4)
    clear g4
    go_wp2_with fail
    refine (CM.out _).mono ?_
    rintro e w5 ⟨rfl, g5⟩
    have G5 := Lib.hid (grown_trans G4.out g5)
    clear g5
    go_wp2
    go_ret
    exact ⟨rfl, G5.out⟩

theorem tmod_facts (x y : Int) (hy : y ≠ 0) :
    ((0 < y ∧ (0 ≤ x.tmod y ∧ x.tmod y < y ∨ x.tmod y < 0 ∧ -(x.tmod y) < y)) ∨ (y < 0 ∧ (0 ≤ x.tmod y ∧ x.tmod y < -y ∨ x.tmod y < 0 ∧ -(x.tmod y) < -y))) ∧
    ((x.tmod y < 0 ∧ x < 0) ∨ x.tmod y = 0 ∨ (0 < x.tmod y ∧ 0 < x)) := by
  have key : ∀ u v : Int, 0 ≤ u → 0 < v → 0 ≤ u % v ∧ u % v < v ∧ (u % v = 0 ∨ 0 < u) := by
    intro u v hu hv
    refine ⟨Int.emod_nonneg _ (by omega), Int.emod_lt_of_pos _ hv, ?_⟩
    by_cases h : u = 0
    · subst h; simp
    · right; omega
  have k2 : ∀ u v : Int, 0 ≤ u → (-u).tmod v = -(u % v) := fun u v hu => by rw [Int.neg_tmod, Int.tmod_eq_emod_of_nonneg hu]
  by_cases hx : 0 ≤ x
  · by_cases hp : 0 < y
    · have := key x y hx hp
      rw [Int.tmod_eq_emod_of_nonneg hx]; omega
    · have := key x (-y) hx (by omega)
      have e : x.tmod y = x % (-y) := by
        have h := Int.tmod_neg x (-y)
        rw [Int.neg_neg] at h
        rw [h, Int.tmod_eq_emod_of_nonneg hx]
      rw [e]; omega
  · obtain ⟨u, rfl⟩ : ∃ u, x = -u := ⟨-x, by omega⟩
    by_cases hp : 0 < y
    · have := key u y (by omega) hp
      rw [k2 u y (by omega)]; omega
    · have := key u (-y) (by omega) (by omega)
      have e : (-u).tmod y = -(u % (-y)) := by
        have h := Int.tmod_neg (-u) (-y)
        rw [Int.neg_neg] at h
        rw [h, k2 u (-y) (by omega)]
      rw [e]; omega
theorem sg_wrap (z : Int) (h0 : -2147483648 ≤ z) (h1 : z ≤ 2147483647) : wrap64 (wrap32 (z % 4294967296)) = z := by unfold wrap64 wrap32; omega
theorem quo_back (a b : Int) (h0 : 0 ≤ a) (h1 : a < 4294967296) : ((sg a).tdiv (sg b) % 4294967296 * b % 4294967296 + (sg a).tmod (sg b) % 4294967296) % 4294967296 = a := by
  have h : (sg a).tmod (sg b) + (sg b) * (sg a).tdiv (sg b) = sg a := Int.tmod_add_mul_tdiv (sg a) (sg b)
  have h2 : (sg a).tdiv (sg b) % 4294967296 * b % 4294967296 = ((sg b) * (sg a).tdiv (sg b)) % 4294967296 := by
    rw [Int.mul_comm (sg b), Int.mul_emod ((sg a).tdiv (sg b)) (sg b), sg_mod b, Int.mul_emod, Int.emod_emod_of_dvd _ (Int.dvd_refl _)]
  rw [h2, ← Int.add_emod, Int.add_comm, h, sg_mod a]
  omega
theorem quoF_bd (a b : Int) : 0 ≤ quoF a b ∧ quoF a b < 4294967296 := by unfold quoF; split <;> omega
theorem remF_bd (a b : Int) (h0 : 0 ≤ a) (h1 : a < 4294967296) : 0 ≤ remF a b ∧ remF a b < 4294967296 := by unfold remF; split <;> omega
theorem divuF_bd (a b : Int) (h0 : 0 ≤ a) (h1 : a < 4294967296) (h2 : 0 ≤ b) : 0 ≤ divuF a b ∧ divuF a b < 4294967296 := by
  unfold divuF
  split
  · omega
  · have q0 : 0 ≤ a / b := Int.ediv_nonneg h0 h2
    have q1 : a / b ≤ a := Int.ediv_le_self b h0
    omega
theorem divides_walk (a b : Int) (h0 : 0 ≤ a) (h1 : a < 4294967296) (h2 : 0 ≤ b) (h3 : b < 4294967296) (w : World) : Calls Try.prog 4 #[.int .u32 a, .int .u32 b] w fun e w' => e = .returned (.bool true) ∧ Grown w w' := by
  have bq := divuF_bd a b h0 h1 h2
  by_cases hb : b = 0
  · subst hb
    have e1 : divuF a 0 = 4294967295 := rfl
    have e2 : remuF a 0 = a := rfl
    have e3 : quoF a 0 = 4294967295 := rfl
    have e4 : remF a 0 = a := rfl
    have CQ := Lib.hid (fun w => exec_43 a 0 h0 h1 h2 h3 w); have CR := Lib.hid (fun w => exec_45 a 0 h0 h1 h2 h3 w); have CS := Lib.hid (fun w => exec_42 a 0 h0 h1 h2 h3 w); have CT := Lib.hid (fun w => exec_44 a 0 h0 h1 h2 h3 w)
    have CM := Lib.hid (fun w => exec_38 4294967295 0 (by omega) (by omega) h2 h3 w)
    rw [e1] at CQ; rw [e2] at CR; rw [e3] at CS; rw [e4] at CT
    clear e1 e2 e3 e4 bq
    have ea : a % 4294967296 = a := by omega
    go_enter Try.func4, Try.ntmps4
    go_wp2_with fail
    refine (CQ.out _).mono ?_
    rintro e w1 ⟨rfl, g1⟩
    have G1 := Lib.hid g1
    clear g1
    go_wp2_with fail
    refine (CR.out _).mono ?_
    rintro e w2 ⟨rfl, g2⟩
    have G2 := Lib.hid (grown_trans G1.out g2)
    clear g2
    go_wp2_with fail
    refine (CS.out _).mono ?_
    rintro e w3 ⟨rfl, g3⟩
    have G3 := Lib.hid (grown_trans G2.out g3)
    clear g3
    go_wp2_with fail
    refine (CT.out _).mono ?_
    rintro e w4 ⟨rfl, g4⟩
    have G4 := Lib.hid (grown_trans G3.out g4)
    clear g4
    go_wp2_with fail
    refine (CM.out _).mono ?_
    rintro e w5 ⟨rfl, g5⟩
    have G5 := Lib.hid (grown_trans G4.out g5)
    clear g5
    go_wp2
    go_ret
    exact ⟨rfl, G5.out⟩
  · have hs := sg_zero b h2 h3 hb
    have ba := sg_bd a h0 h1
    have bb := sg_bd b h2 h3
    obtain ⟨f1, f2⟩ := tmod_facts (sg a) (sg b) hs
    have er : remF a b = (sg a).tmod (sg b) % 4294967296 := by unfold remF; rw [if_neg hb]
    have eq : quoF a b = (sg a).tdiv (sg b) % 4294967296 := by unfold quoF; rw [if_neg hb]
    have ed : divuF a b = a / b := by unfold divuF; rw [if_neg hb]
    have em : remuF a b = a % b := by unfold remuF; rw [if_neg hb]
    refine div_core a b (divuF a b) (remuF a b) (quoF a b) (remF a b) h0 h1 (by omega) h3 w (exec_43 a b h0 h1 h2 h3) (exec_45 a b h0 h1 h2 h3) (exec_42 a b h0 h1 h2 h3) (exec_44 a b h0 h1 h2 h3)
      (exec_38 _ b bq.1 bq.2 h2 h3) ?_ ?_ ?_ (sg a) (sg b) ((sg a).tmod (sg b)) (sg_eq a h0 h1) (sg_eq b h2 h3) ?_ (by omega) (by omega) (by omega) (by omega) f1 f2
    · rw [ed, em]
      have e1 := Int.emod_add_mul_ediv a b
      rw [Int.mul_comm] at e1
      have q0 : 0 ≤ a / b * b := Int.mul_nonneg (Int.ediv_nonneg h0 h2) h2
      have r0 : 0 ≤ a % b := Int.emod_nonneg _ hb
      omega
    · rw [er, eq]; exact quo_back a b h0 h1
    · rw [em]; exact Int.emod_lt_of_pos a (by omega)
    · rw [er]; exact sg_wrap _ (by omega) (by omega)

theorem orders_walk (a b : Int) (h0 : 0 ≤ a) (h1 : a < 4294967296) (h2 : 0 ≤ b) (h3 : b < 4294967296) (w : World) : Calls Try.prog 6 #[.int .u32 a, .int .u32 b] w fun e w' => e = .returned (.bool true) ∧ Grown w w' := by
  have T1 := Lib.hid (fun w => taken_any 9 a b h0 h1 h2 h3 w); have T2 := Lib.hid (fun w => taken_any 9 b a h2 h3 h0 h1 w); have T3 := Lib.hid (fun w => taken_any 5 a b h0 h1 h2 h3 w)
  have T4 := Lib.hid (fun w => taken_any 6 a b h0 h1 h2 h3 w); have T5 := Lib.hid (fun w => taken_any 7 a b h0 h1 h2 h3 w); have T6 := Lib.hid (fun w => taken_any 8 a b h0 h1 h2 h3 w)
  have X1 := Lib.hid (fun w => exec_31 a b h0 h1 h2 h3 w); have X2 := Lib.hid (fun w => exec_32 a b h0 h1 h2 h3 w)
  rw [show takenF 9 a b = decide (a < b) from rfl] at T1
  rw [show takenF 9 b a = decide (b < a) from rfl] at T2
  rw [show takenF 5 a b = decide (a = b) from rfl] at T3
  rw [show takenF 6 a b = decide (a ≠ b) from rfl] at T4
  rw [show takenF 7 a b = decide (sg a < sg b) from rfl] at T5
  rw [show takenF 8 a b = decide (sg b ≤ sg a) from rfl] at T6
  unfold sltF at X1
  unfold sltuF at X2
  have inj : sg a = sg b → a = b := by unfold sg; split <;> split <;> omega
  generalize sg a = A at T5 T6 X1 inj
  generalize sg b = B at T5 T6 X1 inj
  have hc : (a < b ∧ ¬ b < a ∧ ¬ a = b) ∨ (¬ a < b ∧ b < a ∧ ¬ a = b) ∨ (¬ a < b ∧ ¬ b < a ∧ a = b) := by omega
  have hd : (A < B ∧ ¬ B ≤ A) ∨ (¬ A < B ∧ B ≤ A) := by omega
  clear inj
  rcases hc with ⟨c1, c2, c3⟩ | ⟨c1, c2, c3⟩ | ⟨c1, c2, c3⟩ <;> rcases hd with ⟨d1, d2⟩ | ⟨d1, d2⟩
  all_goals
    simp only [c1, c2, c3, d1, d2, ne_eq, not_true_eq_false, not_false_eq_true, decide_true, decide_false, if_true, if_false] at T1 T2 T3 T4 T5 T6 X1 X2
    clear c1 c2 d1 d2
    go_enter Try.func6, Try.ntmps6
    go_wp2_with fail
    refine (T1.out _).mono ?_
    rintro e w1 ⟨rfl, rfl⟩
    go_wp2_with fail
    refine (T2.out _).mono ?_
    rintro e w1 ⟨rfl, rfl⟩
    go_wp2_with fail
    refine (T3.out _).mono ?_
    rintro e w1 ⟨rfl, rfl⟩
    go_wp2_with fail
    refine (T4.out _).mono ?_
    rintro e w1 ⟨rfl, rfl⟩
    go_wp2_with fail
    refine (T5.out _).mono ?_
    rintro e w1 ⟨rfl, rfl⟩
    go_wp2_with fail
    refine (T6.out _).mono ?_
    rintro e w1 ⟨rfl, rfl⟩
    go_wp2_with fail
    refine (X1.out _).mono ?_
    rintro e w1 ⟨rfl, g1⟩
    have G1 := Lib.hid g1
    clear g1
    go_wp2_with fail
    refine (X2.out _).mono ?_
    rintro e w2 ⟨rfl, g2⟩
    have G2 := Lib.hid (grown_trans G1.out g2)
    clear g2
    go_wp2
    go_ret
    exact ⟨rfl, G2.out⟩
end Go.Proofs.Ytejnjleofekljaa
