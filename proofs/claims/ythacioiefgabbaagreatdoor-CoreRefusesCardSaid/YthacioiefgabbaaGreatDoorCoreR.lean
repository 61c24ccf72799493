/- The law CoreRefuses holds, over worlds where its tables are laid. No condition. -/
import Derived.Test.YthacioiefgabbaaGreatDoorCoreQ
import Derived.Test.YthacioiefgabbaaGreatDoorTold
namespace Go.Proofs.YthacioiefgabbaaGreatDoor
open Go.RowKit Go.XHeap Go.Sx Go.Sep
set_option linter.unusedVariables false
set_option maxRecDepth 100000
variable {W w : World}

/-- what the law wants first, by the configuration's verdict and the number of cycles -/
def want (b : Bool) (n : Int) : Int := if n < 0 ∨ n > 1000000 then 3 else if b then 0 else 2
theorem want_bad {b : Bool} {n : Int} (h : n < 0 ∨ n > 1000000) : want b n = 3 := if_pos h
theorem want_ok {b : Bool} {n : Int} (h : ¬ (n < 0 ∨ n > 1000000)) : want b n = if b then 0 else 2 := if_neg h
/-- the cycles it runs for -/
def runs (n : Int) : Int := if n > 200 ∧ n ≤ 1000000 then 200 else n
theorem runs_bad {n : Int} : (0 ≤ runs n ∧ runs n ≤ 1000000) ↔ ¬ (n < 0 ∨ n > 1000000) := by
  unfold runs
  split <;> omega
theorem runs_lt (n : Int) (h : runs n < 2) : runs n < 200 := by omega
def hE0 (w : World) : Prop := w.cell? ⟨0, 0, none⟩ = some (.iface 164 (.agg #[.pointer (some ⟨4, 40, none⟩)]))
set_option maxHeartbeats 1000000 in
theorem law_any (s : Su) (hs : s.rng) (i v n : Int) (hi : I64 i) (hT : Tab W) (hC : CodeAt W 1 codeL) (hE : hE0 W) (h0 : 0 < W.heap.size) :
    Calls Tryz.prog 3 #[.agg s.cells, .int .i64 i, .int .i64 v, .int .i64 n] W fun e w => e = .returned (.bool true) ∧ Hush W w := by
  have fin : ∀ {w : World} {L : List Asn}, St W (tabsA W).own w (tabsA W :: L) → Hush W w := fun H => tabsA_hush (H.nth 0 rfl)
  refine vc3 s.cells i v n ((St.begin (tabsA_mk hT hC)).al fun k w2 H => ⟨s.cells, rfl, H.cells 1 rfl, H.callq (config_any s hs _) fun w3 H => ⟨_, rfl, ?_⟩⟩)
  refine (turned_any s.cf s.cf_good i v hi _).mono ?_
  rintro e w4 ⟨⟨c, b, rfl, hb⟩, hh⟩
  have H := H.quiet hh
  refine ⟨_, b, rfl, H.al fun k2 w5 H => H.sts0 (vs := c.cells) 2 rfl rfl rfl (cf_one c) fun w6 H => ?_⟩
  refine ⟨fun x A => A = w6 ∧ x = if b then 0 else 2, split_of (fun q => ⟨rfl, by rw [if_neg (by simpa using q)]⟩) (fun q => ⟨rfl, by rw [if_pos (by simpa using q)]⟩), fun _ x w7 hx => ?_⟩
  obtain ⟨rfl, rfl⟩ := hx
  refine ⟨fun x A => A = w7 ∧ x = want b n, split_of (fun q => ⟨rfl, (want_bad (.inl (of_decide_eq_true q))).symm⟩) (fun q => split_of (fun q2 => ⟨rfl, (want_bad (.inr (of_decide_eq_true q2))).symm⟩) (fun q2 => ⟨rfl, (want_ok (fun h => h.elim (of_decide_eq_false q) (of_decide_eq_false q2))).symm⟩)), fun _ x w8 hx => ?_⟩
  obtain ⟨rfl, rfl⟩ := hx
  refine ⟨fun x A => A = w8 ∧ x = runs n, split_of (fun q => split_of (fun q2 => ⟨rfl, by rw [runs, if_pos ⟨of_decide_eq_true q, of_decide_eq_true q2⟩]⟩) (fun q2 => ⟨rfl, by rw [runs, if_neg (fun h => of_decide_eq_false q2 h.2)]⟩)) (fun q => ⟨rfl, by rw [runs, if_neg (fun h => of_decide_eq_false q h.1)]⟩), fun _ x w9 hx => ?_⟩
  obtain ⟨rfl, rfl⟩ := hx
  refine H.al fun k4 w10 H => ⟨c.cells, rfl, H.cells 2 rfl, ?_⟩
  have H := H.pick [0, 3]
  refine (run_any (B := W) (cb := k4) c H.here (runs n)).mono ?_
  rintro e w11 ⟨hR, hT11⟩
  clear H
  rcases hR with ⟨hn, rfl⟩ | ⟨hn, hno, rfl⟩ | ⟨hn, hall, vs, hr, rfl⟩
  · refine ⟨repZ, _, rfl, (St.begin hT11).al fun k5 w12 H => H.sts0 (vs := repZ) 1 rfl rfl rfl repZ_one fun w13 H => H.callq (told.told_err 3 _ ?_) fun w14 H => ⟨3, rfl, ?_⟩⟩
    · exact ((tabsA_hush (H.nth 0 rfl)).cell h0 (fun e => e)).trans hE
    have hw : want b n = 3 := want_bad (Classical.not_not.1 fun h => hn (runs_bad.2 h))
    rw [hw]
    exact split_of (fun _ => split_of (fun _ => ⟨none, 0, 0, H.ld 1 rfl rfl, split_of (fun _ => ⟨0, H.ld 1 rfl rfl, split_of (fun _ => ⟨false, H.ld 1 rfl rfl, split_of (fun _ => ⟨_, H.ld 1 rfl rfl, split_of (fun _ => ⟨none, 0, 0, H.ld 1 rfl rfl, split_of (fun _ => ⟨none, 0, 0, H.ld 1 rfl rfl, rfl, tabsA_hush (H.nth 0 rfl)⟩) (fun q => absurd q (by decide))⟩) (fun q => absurd q (by simp))⟩) (fun q => absurd q (by simp))⟩) (fun q => absurd q (by decide))⟩) (fun q => absurd q (by decide))⟩) (fun q => absurd q (by decide))) (fun q => by cases q)
  · refine ⟨repZ, _, rfl, (St.begin hT11).al fun k5 w12 H => H.sts0 (vs := repZ) 1 rfl rfl rfl repZ_one fun w13 H => H.callq (told.told_err 2 _ ?_) fun w14 H => ⟨2, rfl, ?_⟩⟩
    · exact ((tabsA_hush (H.nth 0 rfl)).cell h0 (fun e => e)).trans hE
    have hw : want b n = 2 := (want_ok (runs_bad.1 hn)).trans (if_neg fun h => hno (hb.1 h))
    rw [hw]
    exact split_of (fun _ => split_of (fun _ => ⟨none, 0, 0, H.ld 1 rfl rfl, split_of (fun _ => ⟨0, H.ld 1 rfl rfl, split_of (fun _ => ⟨false, H.ld 1 rfl rfl, split_of (fun _ => ⟨_, H.ld 1 rfl rfl, split_of (fun _ => ⟨none, 0, 0, H.ld 1 rfl rfl, split_of (fun _ => ⟨none, 0, 0, H.ld 1 rfl rfl, rfl, tabsA_hush (H.nth 0 rfl)⟩) (fun q => absurd q (by decide))⟩) (fun q => absurd q (by simp))⟩) (fun q => absurd q (by simp))⟩) (fun q => absurd q (by decide))⟩) (fun q => absurd q (by decide))⟩) (fun q => absurd q (by decide))) (fun q => by cases q)
  · have h2 := (run_one hr)
    obtain ⟨en, cy, p, p2, p3, m, cc, c2, c3, str, e, hend⟩ := hr
    cases e
    refine ⟨_, _, rfl, (St.begin hT11).al fun k5 w12 H => H.sts0 1 rfl rfl rfl h2.2 fun w13 H => (told.told_nil _).mono ?_⟩
    rintro e w14 ⟨rfl, rfl⟩
    refine ⟨0, rfl, ?_⟩
    have hw : want b n = 0 := (want_ok (runs_bad.1 hn)).trans (if_pos (hb.2 hall))
    rw [hw]
    refine split_of (fun q => by cases q) (fun _ => split_of (fun _ => ⟨en, H.ld 1 rfl rfl, split_of (fun _ => ⟨p2, 1, c2, H.ld 1 rfl rfl, rfl, tabsA_hush (H.nth 0 rfl)⟩) (fun q => split_of (fun _ => ⟨p2, 1, c2, H.ld 1 rfl rfl, rfl, tabsA_hush (H.nth 0 rfl)⟩) (fun q2 => ?_))⟩) (fun q => by cases q))
    exact absurd (runs_lt n (hend.resolve_left (by rw [q]; decide))) (of_decide_eq_false q2)
end Go.Proofs.YthacioiefgabbaaGreatDoor
