/- The law's own functions, over what a run of one break answers. No condition. -/
import Derived.Test.YthacioiefgabbaaGreatDoorCoreO
namespace Go.Proofs.YthacioiefgabbaaGreatDoor
open Go.RowKit Go.XHeap Go.Sx Go.Sep
set_option linter.unusedVariables false
set_option maxRecDepth 100000
variable {W w : World}

theorem cf_one (c : Cf) : ∀ v ∈ c.cells.toList, v.oneCell' = true := by
  intro v hv
  unfold Cf.cells at hv
  simp only [List.mem_cons, List.not_mem_nil, or_false] at hv
  rcases hv with rfl | rfl | rfl | rfl | rfl | rfl | rfl | rfl | rfl | rfl | rfl | rfl | rfl | rfl | rfl <;> rfl
theorem CoresIs.form {c : Cf} {n : Int} {e : Ending} (h : CoresIs c n e) : ∃ vs v, e = .returned (.tuple #[.agg vs, v]) ∧ vs.size = 6 ∧ ∀ v ∈ vs.toList, v.oneCell' = true := by
  rcases h with ⟨-, rfl⟩ | ⟨-, -, rfl⟩ | ⟨-, -, vs, hr, rfl⟩
  · exact ⟨repZ, _, rfl, rfl, repZ_one⟩
  · exact ⟨repZ, _, rfl, rfl, repZ_one⟩
  · exact ⟨vs, _, rfl, (run_one hr).1, (run_one hr).2⟩
def runL (B : World) (cb : Nat) : List Asn := [tabsA B, blk cb #[.int .u32 ebreakW] 43]
theorem run_any {B : World} {cb : Nat} (c : Cf) (hD : Sep.here (runL B cb) W) (n : Int) :
    Calls Tryz.prog 7 #[.slice (some ⟨cb, 0, none⟩) 1 1, .slice none 0 0, .agg c.cells, .slice none 0 0, .int .i64 n] W fun e w => CoresIs c n e ∧ (tabsA B).at_ w := by
  have hBW : B.heap.size ≤ W.heap.size := (tabsA_hush (hD.nth 0 rfl)).size
  refine vc7 _ 1 1 none 0 0 c.cells none 0 0 n ((St.all_ hD).al fun k w2 H => H.al fun k2 w3 H => H.al fun k3 w4 H => ⟨c.cells, rfl, H.cells 2 rfl, rfl, H.al fun k4 w5 H => H.al fun k5 w6 H => ?_⟩)
  have H : St W (owns (runL B cb)) w6 [tabsA B, blk cb #[.int .u32 ebreakW] 43, blk k c.cells 29, blk k2 repZ 38, blk k3 #[.slice (some ⟨cb, 0, none⟩) 1 1] 44, blk k4 c.cells 29, blk k5 #[.slice none 0 0] 57] := H
  have H : St W (owns (runL B cb)) w6 (corL B cb k3 k4 k5 c ++ [blk k2 repZ 38]) := H.pick [0, 1, 4, 5, 6, 3]
  obtain ⟨hd1, hd2, hd3⟩ := here_append.1 H.here
  refine (cores_any hd1 n).mono ?_
  rintro e w7 ⟨hC, hT, htch⟩
  obtain ⟨vs, v, rfl, h6, h1⟩ := hC.form
  have hk : Blk w7 k2 repZ 38 := (hd2.1 : Blk w6 k2 repZ 38).keep htch (fun e => hd3 k2 e (.inl rfl))
  refine ⟨vs, v, rfl, (St.begin (A := blk k2 repZ 38) hk).sts0 0 rfl h6 rfl h1 fun w8 H2 => ⟨vs, h6, H2.cells 0 rfl, hC, ?_⟩⟩
  exact (tabsA B).keep hT H2.touch (fun q hq e => by
    have e : q = k2 := e
    subst e
    exact hd3 q (.inl hq) (.inl rfl))

/-! ### a number out of a range -/
def pkv (c n : Int) : Int := if c < 0 then (-(c + 1)).tmod n else c.tmod n
theorem pkv_bound (c n : Int) (hn : 0 < n) : 0 ≤ pkv c n ∧ pkv c n < n := by
  unfold pkv
  split
  · exact ⟨Int.tmod_nonneg _ (by omega), Int.tmod_lt_of_pos _ hn⟩
  · exact ⟨Int.tmod_nonneg _ (by omega), Int.tmod_lt_of_pos _ hn⟩
def I64 (c : Int) : Prop := -9223372036854775808 ≤ c ∧ c ≤ 9223372036854775807
theorem pickv_any (W : World) (c n : Int) (h0 : I64 c) (hn : 0 < n) : Calls Tryz.prog 13 #[.int .i64 c, .int .i64 n] W fun e w => e = .returned (.int .i64 (pkv c n)) ∧ w = W := by
  have h0' := h0.1
  refine vc13 c n (split_of (fun h => ?_) (fun h => ?_))
  · have hc : c < 0 := of_decide_eq_true h
    rintro z rfl
    refine ⟨by omega, ?_⟩
    rintro z2 rfl
    rw [w64 (e := c + 1) (by omega) (by omega), w64 (e := 0 - (c + 1)) (by omega) (by omega)]
    refine ⟨?_, rfl⟩
    unfold pkv
    rw [if_pos hc, Int.zero_sub]
  · have hc : ¬ c < 0 := of_decide_eq_false h
    refine ⟨by omega, ?_⟩
    rintro z3 rfl
    refine ⟨?_, rfl⟩
    unfold pkv
    rw [if_neg hc]
/-! ### the configuration that is drawn -/
/-- what the law is asked -/
structure Su where
  width : Int
  window : Int
  queue : Int
  regs : Int
  units : Int
  mul : Int
  kind : Int
  bits : Int
  hist : Int
  tgts : Int
  rets : Int
  sets : Int
  ways : Int
  cyc : Int
  bold : Bool
def Su.cells (s : Su) : Array Value := #[.int .i64 s.width, .int .i64 s.window, .int .i64 s.queue, .int .i64 s.regs, .int .i64 s.units, .int .i64 s.mul, .int .i64 s.kind, .int .i64 s.bits, .int .i64 s.hist, .int .i64 s.tgts, .int .i64 s.rets, .int .i64 s.sets, .int .i64 s.ways, .int .i64 s.cyc, .bool s.bold]
structure Su.rng (s : Su) : Prop where
  width : I64 s.width
  window : I64 s.window
  queue : I64 s.queue
  regs : I64 s.regs
  units : I64 s.units
  mul : I64 s.mul
  kind : I64 s.kind
  bits : I64 s.bits
  hist : I64 s.hist
  tgts : I64 s.tgts
  rets : I64 s.rets
  sets : I64 s.sets
  ways : I64 s.ways
  cyc : I64 s.cyc
structure Cf.good (c : Cf) : Prop where
  width : 1 ≤ c.width ∧ c.width ≤ 4
  window : 2 ≤ c.window ∧ c.window ≤ 64
  queue : 1 ≤ c.queue ∧ c.queue ≤ 32
  regs : 34 ≤ c.regs ∧ c.regs ≤ 128
  units : 1 ≤ c.units ∧ c.units ≤ 4
  mul : 1 ≤ c.mul ∧ c.mul ≤ 10
  kind : 0 ≤ c.kind ∧ c.kind ≤ 3
  bits : 1 ≤ c.bits ∧ c.bits ≤ 10
  hist : 0 ≤ c.hist ∧ c.hist ≤ c.bits
  tgts : 0 ≤ c.tgts ∧ c.tgts ≤ 8
  rets : 1 ≤ c.rets ∧ c.rets ≤ 16
  sets : c.sets = 1 ∨ c.sets = 2 ∨ c.sets = 4 ∨ c.sets = 8 ∨ c.sets = 16
  ways : 1 ≤ c.ways ∧ c.ways ≤ 4
  bus : 0 ≤ c.bus ∧ c.bus ≤ 10
def Su.cf (s : Su) : Cf := ⟨1 + pkv s.width 4, 2 + pkv s.window 63, 1 + pkv s.queue 32, 34 + pkv s.regs 95, 1 + pkv s.units 4, 1 + pkv s.mul 10, s.bold, pkv s.kind 4, 1 + pkv s.bits 10, pkv s.hist (1 + pkv s.bits 10 + 1), pkv s.tgts 9, 1 + pkv s.rets 16, 2 ^ (pkv s.sets 5).toNat, 1 + pkv s.ways 4, pkv s.cyc 11⟩
theorem Su.cf_good (s : Su) : s.cf.good := by
  have b1 := pkv_bound s.width 4 (by decide)
  have b2 := pkv_bound s.window 63 (by decide)
  have b3 := pkv_bound s.queue 32 (by decide)
  have b4 := pkv_bound s.regs 95 (by decide)
  have b5 := pkv_bound s.units 4 (by decide)
  have b6 := pkv_bound s.mul 10 (by decide)
  have b7 := pkv_bound s.kind 4 (by decide)
  have b8 := pkv_bound s.bits 10 (by decide)
  have b9 := pkv_bound s.hist (1 + pkv s.bits 10 + 1) (by omega)
  have b10 := pkv_bound s.tgts 9 (by decide)
  have b11 := pkv_bound s.rets 16 (by decide)
  have b12 := pkv_bound s.sets 5 (by decide)
  have b13 := pkv_bound s.ways 4 (by decide)
  have b14 := pkv_bound s.cyc 11 (by decide)
  refine ⟨?_, ?_, ?_, ?_, ?_, ?_, ?_, ?_, ?_, ?_, ?_, ?_, ?_, ?_⟩ <;> simp only [Su.cf]
  case refine_12 =>
    obtain h | h | h | h | h : pkv s.sets 5 = 0 ∨ pkv s.sets 5 = 1 ∨ pkv s.sets 5 = 2 ∨ pkv s.sets 5 = 3 ∨ pkv s.sets 5 = 4 := by omega
    all_goals (rw [h]; decide)
  all_goals omega
theorem pow_wrap {z : Int} (h0 : 0 ≤ z) (h5 : z < 5) : IntKind.wrap .i64 (1 * 2 ^ min z.toNat (IntKind.bits .i64)) = 2 ^ z.toNat := by
  obtain h | h | h | h | h : z = 0 ∨ z = 1 ∨ z = 2 ∨ z = 3 ∨ z = 4 := by omega
  all_goals (subst h; decide)
def cfZ : Cf := ⟨0, 0, 0, 0, 0, 0, false, 0, 0, 0, 0, 0, 0, 0, 0⟩
theorem config_any (s : Su) (hs : s.rng) (W : World) : Calls Tryz.prog 6 #[.agg s.cells] W fun e w => e = .returned (.agg s.cf.cells) ∧ Hush W w := by
  have b1 := pkv_bound s.width 4 (by decide)
  have b2 := pkv_bound s.window 63 (by decide)
  have b3 := pkv_bound s.queue 32 (by decide)
  have b4 := pkv_bound s.regs 95 (by decide)
  have b5 := pkv_bound s.units 4 (by decide)
  have b6 := pkv_bound s.mul 10 (by decide)
  have b8 := pkv_bound s.bits 10 (by decide)
  have b11 := pkv_bound s.rets 16 (by decide)
  have b12 := pkv_bound s.sets 5 (by decide)
  have b13 := pkv_bound s.ways 4 (by decide)
  refine vc6 s.cells ((St.nil W).al fun k w2 H => H.al fun k2 w3 H => ⟨s.bits, H.ld 0 rfl rfl, H.callp (pickv_any _ s.bits 10 hs.bits (by decide)) ⟨_, rfl, ?_⟩⟩)
  rintro z3 rfl
  rw [w64 (e := 1 + pkv s.bits 10) (by omega) (by omega)]
  refine H.dr fun w5 H => ⟨s.width, H.ld 0 rfl rfl, _, pickv_any _ s.width 4 hs.width (by decide), ?_⟩
  rintro z6 rfl
  refine ⟨s.window, H.ld 0 rfl rfl, _, pickv_any _ s.window 63 hs.window (by decide), ?_⟩
  rintro z9 rfl
  refine ⟨s.queue, H.ld 0 rfl rfl, _, pickv_any _ s.queue 32 hs.queue (by decide), ?_⟩
  rintro z12 rfl
  refine ⟨s.regs, H.ld 0 rfl rfl, _, pickv_any _ s.regs 95 hs.regs (by decide), ?_⟩
  rintro z15 rfl
  refine ⟨s.units, H.ld 0 rfl rfl, _, pickv_any _ s.units 4 hs.units (by decide), ?_⟩
  rintro z18 rfl
  refine ⟨s.mul, H.ld 0 rfl rfl, _, pickv_any _ s.mul 10 hs.mul (by decide), ?_⟩
  rintro z21 rfl
  refine ⟨s.bold, H.ld 0 rfl rfl, s.kind, H.ld 0 rfl rfl, _, pickv_any _ s.kind 4 hs.kind (by decide), s.hist, H.ld 0 rfl rfl, ?_⟩
  rintro z25 rfl
  rw [w64 (e := 1 + pkv s.bits 10 + 1) (by omega) (by omega)]
  refine ⟨_, pickv_any _ s.hist (1 + pkv s.bits 10 + 1) hs.hist (by omega), s.tgts, H.ld 0 rfl rfl, _, pickv_any _ s.tgts 9 hs.tgts (by decide), s.rets, H.ld 0 rfl rfl, _, pickv_any _ s.rets 16 hs.rets (by decide), ?_⟩
  rintro z31 rfl
  rintro vs rfl
  refine ⟨s.sets, H.ld 0 rfl rfl, _, pickv_any _ s.sets 5 hs.sets (by decide), b12.1, ?_⟩
  rintro z34 rfl
  rw [pow_wrap b12.1 b12.2]
  refine ⟨s.ways, H.ld 0 rfl rfl, _, pickv_any _ s.ways 4 hs.ways (by decide), ?_⟩
  rintro z37 rfl
  rintro vs2 rfl
  refine ⟨s.cyc, H.ld 0 rfl rfl, _, pickv_any _ s.cyc 11 hs.cyc (by decide), rfl, rfl, ?_⟩
  rintro vs3 rfl
  rw [w64 (e := 1 + pkv s.width 4) (by omega) (by omega), w64 (e := 2 + pkv s.window 63) (by omega) (by omega), w64 (e := 1 + pkv s.queue 32) (by omega) (by omega), w64 (e := 34 + pkv s.regs 95) (by omega) (by omega), w64 (e := 1 + pkv s.units 4) (by omega) (by omega), w64 (e := 1 + pkv s.mul 10) (by omega) (by omega), w64 (e := 1 + pkv s.rets 16) (by omega) (by omega), w64 (e := 1 + pkv s.ways 4) (by omega) (by omega)]
  exact H.sts0 (vs := s.cf.cells) 1 rfl rfl rfl (cf_one s.cf) fun w6 H => ⟨s.cf.cells, rfl, H.cells 1 rfl, rfl, H.quiet'⟩
end Go.Proofs.YthacioiefgabbaaGreatDoor
