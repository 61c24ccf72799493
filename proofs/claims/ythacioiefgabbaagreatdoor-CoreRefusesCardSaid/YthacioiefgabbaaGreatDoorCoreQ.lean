/- One number of a configuration turned, and what then is asked of it. No condition. -/
import Derived.Test.YthacioiefgabbaaGreatDoorCoreP
namespace Go.Proofs.YthacioiefgabbaaGreatDoor
open Go.RowKit Go.XHeap Go.Sx Go.Sep
set_option linter.unusedVariables false
set_option maxRecDepth 100000
variable {W w : World}

def Cf.turn (c : Cf) (j : Nat) (v : Int) : Cf := match j with
  | 0 => { c with width := v }
  | 1 => { c with window := v }
  | 2 => { c with queue := v }
  | 3 => { c with regs := v }
  | 4 => { c with units := v }
  | 5 => { c with mul := v }
  | 6 => { c with kind := v }
  | 7 => { c with bits := v }
  | 8 => { c with hist := v }
  | 9 => { c with tgts := v }
  | 10 => { c with rets := v }
  | 11 => { c with sets := v }
  | 12 => { c with ways := v }
  | _ => { c with bus := v }
def loL : List Int := [1, 2, 1, 34, 1, 1, 0, 1, 0, 0, 1, 1, 1, 0]
def hiL (c : Cf) : List Int := [4, 64, 32, 128, 4, 10, 3, 10, c.bits, 8, 16, 16, 4, 10]
/-- a power of two, as the law asks it -/
def pw (v : Int) : Int := IntKind.wrap .i64 ((BitVec.toNat (BitVec.ofInt (IntKind.bits .i64) v &&& BitVec.ofInt (IntKind.bits .i64) (IntKind.wrap .i64 (v - 1))) : Nat) : Int)
theorem all_iff (c : Cf) : c.all ↔ ((c.sets = 1 ∨ c.sets = 2 ∨ c.sets = 4 ∨ c.sets = 8 ∨ c.sets = 16) ∧ 1 ≤ c.ways ∧ c.ways ≤ 4) ∧ ((1 ≤ c.width ∧ c.width ≤ 4) ∧ (1 ≤ c.units ∧ c.units ≤ 4) ∧ (1 ≤ c.mul ∧ c.mul ≤ 10) ∧ 0 ≤ c.bus ∧ c.bus ≤ 10) ∧ (2 ≤ c.window ∧ c.window ≤ 64) ∧ (34 ≤ c.regs ∧ c.regs ≤ 128) ∧ (1 ≤ c.queue ∧ c.queue ≤ 32) ∧ (0 ≤ c.kind ∧ c.kind ≤ 3) ∧ (1 ≤ c.bits ∧ c.bits ≤ 10) ∧ (0 ≤ c.hist ∧ c.hist ≤ c.bits) ∧ (0 ≤ c.tgts ∧ c.tgts ≤ 8) ∧ 1 ≤ c.rets ∧ c.rets ≤ 16 := by
  constructor
  · rintro ⟨⟨h1, h2, h3⟩, hchk, hw, hn, hq, hp⟩
    obtain ⟨w1, w2, w3, w4⟩ : win.winOk c.window (if 34 > c.regs then 34 else c.regs) := of_decide_eq_true hw
    have hn : 34 ≤ c.regs ∧ c.regs ≤ 128 := of_decide_eq_true hn
    have hq : 1 ≤ c.queue ∧ c.queue ≤ 32 := of_decide_eq_true hq
    have hp : predOk c.kind c.bits c.hist c.tgts c.rets := of_decide_eq_true hp
    exact ⟨⟨h1, h2, h3⟩, hchk, ⟨w1, w2⟩, hn, hq, hp⟩
  · rintro ⟨⟨h1, h2, h3⟩, hchk, ⟨w1, w2⟩, hn, hq, hp⟩
    have hw : win.winOk c.window (if 34 > c.regs then 34 else c.regs) := by
      rw [if_neg (by omega)]
      exact ⟨w1, w2, hn⟩
    exact ⟨⟨h1, h2, h3⟩, hchk, decide_eq_true hw, decide_eq_true hn, decide_eq_true hq, decide_eq_true (show predOk c.kind c.bits c.hist c.tgts c.rets from hp)⟩
def Cf.lo (j : Nat) : Int := loL.getD j 0
def Cf.hi (c : Cf) (j : Nat) : Int := (hiL c).getD j 0
theorem j14 {j : Nat} (hj : j < 14) : j = 0 ∨ j = 1 ∨ j = 2 ∨ j = 3 ∨ j = 4 ∨ j = 5 ∨ j = 6 ∨ j = 7 ∨ j = 8 ∨ j = 9 ∨ j = 10 ∨ j = 11 ∨ j = 12 ∨ j = 13 := by omega
theorem turn_all {c : Cf} (hc : c.good) {j : Nat} (hj : j < 14) {v : Int} (h11 : j = 11 → pw v = 0) (h1 : Cf.lo j ≤ v) (h2 : v ≤ c.hi j) : (c.turn j v).all ↔ (c.turn j v).hist ≤ (c.turn j v).bits := by
  rw [all_iff]
  obtain ⟨a1, a2, a3, a4, a5, a6, a7, a8, a9, a10, a11, a12, a13, a14⟩ := hc
  obtain rfl | rfl | rfl | rfl | rfl | rfl | rfl | rfl | rfl | rfl | rfl | rfl | rfl | rfl := j14 hj
  case inr.inr.inr.inr.inr.inr.inr.inr.inr.inr.inr.inl =>
    have h1 : 1 ≤ v := h1
    have h2 : v ≤ 16 := h2
    have hp := h11 rfl
    have hv : v = 1 ∨ v = 2 ∨ v = 4 ∨ v = 8 ∨ v = 16 := by
      obtain rfl | rfl | rfl | rfl | rfl | rfl | rfl | rfl | rfl | rfl | rfl | rfl | rfl | rfl | rfl | rfl : v = 1 ∨ v = 2 ∨ v = 3 ∨ v = 4 ∨ v = 5 ∨ v = 6 ∨ v = 7 ∨ v = 8 ∨ v = 9 ∨ v = 10 ∨ v = 11 ∨ v = 12 ∨ v = 13 ∨ v = 14 ∨ v = 15 ∨ v = 16 := by omega
      all_goals first | decide | exact absurd hp (by decide)
    simp only [Cf.turn]
    omega
  all_goals (simp only [Cf.lo, Cf.hi, loL, hiL, List.getD_cons_zero, List.getD_cons_succ] at h1 h2; simp only [Cf.turn]; omega)
theorem turn_lo {c : Cf} {j : Nat} (hj : j < 14) {v : Int} (h1 : ¬ Cf.lo j ≤ v) : ¬ (c.turn j v).all := by
  rw [all_iff]
  obtain rfl | rfl | rfl | rfl | rfl | rfl | rfl | rfl | rfl | rfl | rfl | rfl | rfl | rfl := j14 hj
  all_goals (simp only [Cf.lo, loL, List.getD_cons_zero, List.getD_cons_succ] at h1; simp only [Cf.turn]; omega)
theorem turn_hi {c : Cf} {j : Nat} (hj : j < 14) {v : Int} (h1 : ¬ v ≤ c.hi j) : ¬ (c.turn j v).all := by
  rw [all_iff]
  obtain rfl | rfl | rfl | rfl | rfl | rfl | rfl | rfl | rfl | rfl | rfl | rfl | rfl | rfl := j14 hj
  all_goals (simp only [Cf.hi, hiL, List.getD_cons_zero, List.getD_cons_succ] at h1; simp only [Cf.turn]; omega)
theorem turn_pw {c : Cf} {v : Int} (h : pw v ≠ 0) : ¬ (c.turn 11 v).all := by
  rw [all_iff]
  simp only [Cf.turn]
  rintro ⟨⟨hv, -⟩, -⟩
  obtain rfl | rfl | rfl | rfl | rfl := hv
  all_goals exact h (by decide)
theorem ne_of_beq_false {a b : Int} (h : (a == b) = false) : a ≠ b := by
  rintro rfl
  simp at h
theorem no_iff {P : Prop} (h : ¬ P) : false = true ↔ P := ⟨fun e => (by cases e), fun e => absurd e h⟩
def loA : Array Value := ints .i64 loL
def hiA (c : Cf) : Array Value := ints .i64 (hiL c)
theorem lo_at {j : Nat} (hj : j < 14) : loA[0 + ((j : Nat) : Int).toNat * 1]? = some (.int .i64 (Cf.lo j)) := by
  rw [ix1, Nat.zero_add]
  exact ints_ok (getD_at hj)
theorem hi_at (c : Cf) {j : Nat} (hj : j < 14) : (hiA c)[0 + ((j : Nat) : Int).toNat * 1]? = some (.int .i64 (c.hi j)) := by
  rw [ix1, Nat.zero_add]
  exact ints_ok (getD_at hj)
/-- what Turned answers -/
def TurnIs (c : Cf) (v : Int) (e : Ending) : Prop := ∃ (c' : Cf) (b : Bool), e = .returned (.tuple #[.agg c'.cells, .bool b]) ∧ (b = true ↔ c'.all)
set_option maxHeartbeats 2000000 in
theorem turned_any (c : Cf) (hc : c.good) (i v : Int) (hi : I64 i) (W : World) : Calls Tryz.prog 5 #[.agg c.cells, .int .i64 i, .int .i64 v] W fun e w => TurnIs c v e ∧ Hush W w := by
  have hb := pkv_bound i 14 (by decide)
  obtain ⟨j, hje, hj⟩ : ∃ j : Nat, pkv i 14 = (j : Int) ∧ j < 14 := ⟨(pkv i 14).toNat, by omega, by omega⟩
  refine vc5 c.cells i v ((St.nil W).al fun k w2 H => H.al fun k2 w3 H => H.callp (pickv_any _ i 14 hi (by decide)) ⟨(j : Int), by rw [hje], H.al fun k3 w5 H => ⟨c.bits, H.ld 0 rfl rfl, H.al fun k4 w6 H => ?_⟩⟩)
  have H : St W (fun _ => False) w6 [blk k c.cells 29, blk k2 cfZ.cells 29, blk k3 loA 3, blk k4 (hiA c) 3] := H
  refine ⟨fun A => St W (fun _ => False) A [blk k (c.turn j v).cells 29, blk k2 cfZ.cells 29, blk k3 loA 3, blk k4 (hiA c) 3], split_of (fun q => by
    obtain rfl : j = 0 := by have := eq_of_beq q; omega
    exact H.st 0 rfl (by show 0 < 15; decide) fun w H => H) (fun q0 => split_of (fun q => by
    obtain rfl : j = 1 := by have := eq_of_beq q; omega
    exact H.st 0 rfl (by show 1 < 15; decide) fun w H => H) (fun q1 => split_of (fun q => by
    obtain rfl : j = 2 := by have := eq_of_beq q; omega
    exact H.st 0 rfl (by show 2 < 15; decide) fun w H => H) (fun q2 => split_of (fun q => by
    obtain rfl : j = 3 := by have := eq_of_beq q; omega
    exact H.st 0 rfl (by show 3 < 15; decide) fun w H => H) (fun q3 => split_of (fun q => by
    obtain rfl : j = 4 := by have := eq_of_beq q; omega
    exact H.st 0 rfl (by show 4 < 15; decide) fun w H => H) (fun q4 => split_of (fun q => by
    obtain rfl : j = 5 := by have := eq_of_beq q; omega
    exact H.st 0 rfl (by show 5 < 15; decide) fun w H => H) (fun q5 => split_of (fun q => by
    obtain rfl : j = 6 := by have := eq_of_beq q; omega
    exact H.st 0 rfl (by show 7 < 15; decide) fun w H => H) (fun q6 => split_of (fun q => by
    obtain rfl : j = 7 := by have := eq_of_beq q; omega
    exact H.st 0 rfl (by show 8 < 15; decide) fun w H => H) (fun q7 => split_of (fun q => by
    obtain rfl : j = 8 := by have := eq_of_beq q; omega
    exact H.st 0 rfl (by show 9 < 15; decide) fun w H => H) (fun q8 => split_of (fun q => by
    obtain rfl : j = 9 := by have := eq_of_beq q; omega
    exact H.st 0 rfl (by show 10 < 15; decide) fun w H => H) (fun q9 => split_of (fun q => by
    obtain rfl : j = 10 := by have := eq_of_beq q; omega
    exact H.st 0 rfl (by show 11 < 15; decide) fun w H => H) (fun q10 => split_of (fun q => by
    obtain rfl : j = 11 := by have := eq_of_beq q; omega
    exact H.st 0 rfl (by show 12 < 15; decide) fun w H => H) (fun q11 => split_of (fun q => by
    obtain rfl : j = 12 := by have := eq_of_beq q; omega
    exact H.st 0 rfl (by show 13 < 15; decide) fun w H => H) (fun q12 => split_of (fun q => by
    obtain rfl : j = 13 := by have := eq_of_beq q; omega
    exact H.st 0 rfl (by show 14 < 15; decide) fun w H => H) (fun q13 => absurd hj (by have := ne_of_beq_false q0; have := ne_of_beq_false q1; have := ne_of_beq_false q2; have := ne_of_beq_false q3; have := ne_of_beq_false q4; have := ne_of_beq_false q5; have := ne_of_beq_false q6; have := ne_of_beq_false q7; have := ne_of_beq_false q8; have := ne_of_beq_false q9; have := ne_of_beq_false q10; have := ne_of_beq_false q11; have := ne_of_beq_false q12; have := ne_of_beq_false q13; omega))))))))))))))), fun _ w21 H => ?_⟩
  have hjr : (0 : Int) ≤ (j : Int) ∧ (j : Int) < ((14 : Nat) : Int) := ⟨by omega, by omega⟩
  refine split_of (fun q11 => ?_) (fun q11 => ?_)
  · have h11 : j ≠ 11 := by
      rintro rfl
      exact absurd q11 (by decide)
    refine H.dr fun w22 H => ⟨hjr, (c.turn j v).cells, rfl, H.cells 0 rfl, Cf.lo j, H.ld 2 rfl (lo_at hj), split_of (fun q1 => ?_) (fun q1 => ?_)⟩
    · have h1 : Cf.lo j ≤ v := of_decide_eq_true q1
      refine ⟨hjr, c.hi j, H.ld 3 rfl (hi_at c hj), split_of (fun q2 => ?_) (fun q2 => ?_)⟩
      · have h2 : v ≤ c.hi j := of_decide_eq_true q2
        have hA := turn_all hc hj (v := v) (fun e => absurd e h11) h1 h2
        repeat' first
          | exact ⟨⟨c.turn j v, _, rfl, decide_eq_true_iff.trans hA.symm⟩, H.quiet'⟩
          | refine ⟨Below.refl _ _, ?_⟩
          | refine H.sts0 1 rfl rfl rfl (cf_one _) fun w H => ?_
          | refine ⟨_, rfl, H.cells 1 rfl, ?_⟩
          | refine ⟨_, H.ld 0 rfl rfl, ?_⟩
          | refine ⟨?_, ?_⟩
      · have hA := no_iff (turn_hi (c := c) hj (fun h => of_decide_eq_false q2 h))
        repeat' first
          | exact ⟨⟨c.turn j v, _, rfl, hA⟩, H.quiet'⟩
          | refine ⟨Below.refl _ _, ?_⟩
          | refine H.sts0 1 rfl rfl rfl (cf_one _) fun w H => ?_
          | refine ⟨_, rfl, H.cells 1 rfl, ?_⟩
          | refine ⟨?_, ?_⟩
    · have hA := no_iff (turn_lo (c := c) hj (fun h => of_decide_eq_false q1 h))
      repeat' first
        | exact ⟨⟨c.turn j v, _, rfl, hA⟩, H.quiet'⟩
        | refine ⟨Below.refl _ _, ?_⟩
        | refine H.sts0 1 rfl rfl rfl (cf_one _) fun w H => ?_
        | refine ⟨_, rfl, H.cells 1 rfl, ?_⟩
        | refine ⟨?_, ?_⟩
  · obtain rfl : j = 11 := by
      have : (((j : Nat) : Int) == 11) = true := by simpa using q11
      have := eq_of_beq this
      omega
    rintro z15 rfl z16 hz16
    obtain rfl : z16 = pw v := hz16
    refine H.dr fun w22 H => ⟨hjr, (c.turn 11 v).cells, rfl, H.cells 0 rfl, Cf.lo 11, H.ld 2 rfl (lo_at hj), split_of (fun q1 => ?_) (fun q1 => ?_)⟩
    · have h1 : Cf.lo 11 ≤ v := of_decide_eq_true q1
      refine ⟨hjr, c.hi 11, H.ld 3 rfl (hi_at c hj), split_of (fun q2 => ?_) (fun q2 => ?_)⟩
      · have h2 : v ≤ c.hi 11 := of_decide_eq_true q2
        refine split_of (fun q3 => ?_) (fun q3 => ?_)
        · have hA := turn_all hc hj (v := v) (fun _ => eq_of_beq q3) h1 h2
          repeat' first
            | exact ⟨⟨c.turn 11 v, _, rfl, decide_eq_true_iff.trans hA.symm⟩, H.quiet'⟩
            | refine ⟨Below.refl _ _, ?_⟩
            | refine H.sts0 1 rfl rfl rfl (cf_one _) fun w H => ?_
            | refine ⟨_, rfl, H.cells 1 rfl, ?_⟩
            | refine ⟨_, H.ld 0 rfl rfl, ?_⟩
            | refine ⟨?_, ?_⟩
        · have hA := no_iff (turn_pw (c := c) (ne_of_beq_false q3))
          repeat' first
            | exact ⟨⟨c.turn 11 v, _, rfl, hA⟩, H.quiet'⟩
            | refine ⟨Below.refl _ _, ?_⟩
            | refine H.sts0 1 rfl rfl rfl (cf_one _) fun w H => ?_
            | refine ⟨_, rfl, H.cells 1 rfl, ?_⟩
            | refine ⟨?_, ?_⟩
      · have hA := no_iff (turn_hi (c := c) hj (fun h => of_decide_eq_false q2 h))
        repeat' first
          | exact ⟨⟨c.turn 11 v, _, rfl, hA⟩, H.quiet'⟩
          | refine ⟨Below.refl _ _, ?_⟩
          | refine H.sts0 1 rfl rfl rfl (cf_one _) fun w H => ?_
          | refine ⟨_, rfl, H.cells 1 rfl, ?_⟩
          | refine ⟨?_, ?_⟩
    · have hA := no_iff (turn_lo (c := c) hj (fun h => of_decide_eq_false q1 h))
      repeat' first
        | exact ⟨⟨c.turn 11 v, _, rfl, hA⟩, H.quiet'⟩
        | refine ⟨Below.refl _ _, ?_⟩
        | refine H.sts0 1 rfl rfl rfl (cf_one _) fun w H => ?_
        | refine ⟨_, rfl, H.cells 1 rfl, ?_⟩
        | refine ⟨?_, ?_⟩
end Go.Proofs.YthacioiefgabbaaGreatDoor
