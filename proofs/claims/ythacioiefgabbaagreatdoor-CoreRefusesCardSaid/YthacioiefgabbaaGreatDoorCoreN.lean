/- One core with a bus: a run. No condition. -/
import Derived.Test.YthacioiefgabbaaGreatDoorCoreM
namespace Go.Proofs.YthacioiefgabbaaGreatDoor
open Go.RowKit Go.XHeap Go.Sx Go.Sep
set_option linter.unusedVariables false
set_option maxRecDepth 100000
variable {W w : World} {x : Nat} {C : KC} {K K' : KS} {L : List Asn} {b j : Nat} {F F' : Fl} {M : Nat → Prop}

def zeros32 : Array Value := ints .u32 (List.replicate 32 0)
theorem zeros_one : ∀ v ∈ zeros32.toList, v.oneCell' = true := ints_one
set_option maxHeartbeats 1000000 in
theorem drive_any {B : cbus.BP} {S : cbus.PB} {cp : Option Addr} {cc lb : Nat} (hD : Sep.here (drvL x C K B S cp cc lb) W) (hG : Good C) (hw : 1 ≤ C.c.width) (hu : 1 ≤ C.c.units) (hR : 34 ≤ C.c.regs) (hF : Fr C K) (hQ : QB 0 B S) (n : Int) :
    Calls Tryz.prog 25 #[.slice cp 1 cc, .slice (some ⟨lb, 0, none⟩) 1 1, .int .i64 n] W fun e w => RunIs n e ∧ (tabsA C.B).at_ w ∧ XTouch (owns (drvL x C K B S cp cc lb)) W w := by
  obtain ⟨g, o, rfl, -⟩ := slcore (here.nth 2 hD rfl : Sl W 84 1 (.slice cp 1 cc) 1 [.pointer (some ⟨x, 0, none⟩)])
  have cc0 : ∀ {A : World} {M : Nat → Prop} {K' : KS} {B' : cbus.BP} {S' : cbus.PB} {L : List Asn}, St W M A (drvL x C K' B' S' (some ⟨g, o, none⟩) cc lb ++ L) → A.cell? ⟨g, o, none⟩ = some (.pointer (some ⟨x, 0, none⟩)) := fun H => by
    obtain ⟨g', o', e, hc⟩ := slcore (H.nth 2 rfl : Sl _ 84 1 (.slice (some ⟨g, o, none⟩) 1 cc) 1 [.pointer (some ⟨x, 0, none⟩)])
    cases e; exact hc
  refine vc25 _ 1 cc (some ⟨lb, 0, none⟩) 1 1 n ((St.all_ hD).al fun k w2 H => ⟨⟨by decide, by decide⟩, adr_some ⟨_, cc0 H, ptr_some ⟨some ⟨C.tb, 0, none⟩, by rw [add_none, add_none]; exact (core_open (H.nth 0 rfl)).ld 0 rfl rfl, ?_⟩⟩⟩)
  have H : St W (owns (drvL x C K B S (some ⟨g, o, none⟩) cc lb)) w2 (drvL x C K B S (some ⟨g, o, none⟩) cc lb ++ [blk k (repC false 0 nilS emptyS nilS nilS) 38]) := H
  refine ⟨fun A => ∃ (en : Bool) (cy : Nat) (K' : KS) (B' : cbus.BP) (S' : cbus.PB), At C cy en K' ∧ QB cy B' S' ∧ (en = true ∨ n < 2) ∧ St W (owns (drvL x C K B S (some ⟨g, o, none⟩) cc lb)) A (drvL x C K' B' S' (some ⟨g, o, none⟩) cc lb ++ [blk k (repC en cy nilS emptyS nilS nilS) 38]), H.st 4 rfl (by show 1 < 6; omega) fun w3 H => ?_, fun _ => ?_⟩
  · refine ⟨fun A => ∃ (en : Bool) (cy : Nat) (K' : KS) (B' : cbus.BP) (S' : cbus.PB), At C cy en K' ∧ QB cy B' S' ∧ St W (owns (drvL x C K B S (some ⟨g, o, none⟩) cc lb)) A (drvL x C K' B' S' (some ⟨g, o, none⟩) cc lb ++ [blk k (repC en cy nilS emptyS nilS nilS) 38]), msr k, ⟨false, 0, K, B, S, .inl ⟨rfl, rfl, hF⟩, hQ, H⟩, fun _ => ?_⟩
    clear H
    rintro w4 ⟨en, cy, K1, B1, S1, hA, hQ1, H⟩
    refine ⟨(cy : Int), H.ld 4 rfl rfl, split_of (fun q => ?_) (fun q => ⟨en, cy, K1, B1, S1, hA, hQ1, ?_, H⟩)⟩
    rotate_left
    · have q := of_decide_eq_false q
      rcases hA with ⟨h1, -, -⟩ | ⟨h1, -, -⟩ | ⟨-, h2, -⟩
      · exact .inr (by omega)
      · exact .inr (by omega)
      · exact .inl h2
    refine ⟨en, H.ld 4 rfl rfl, split_of (fun q2 => ?_) (fun q2 => ⟨en, cy, K1, B1, S1, hA, hQ1, .inl (by simpa using q2), H⟩)⟩
    have hen : en = false := by simpa using q2
    subst hen
    have hcy : cy ≤ 1 := by rcases hA with ⟨h1, -, -⟩ | ⟨h1, -, -⟩ | ⟨-, h2, -⟩ <;> first | omega | cases h2
    have c4 : w4.cell? ⟨k, 1, none⟩ = some (.int .i64 cy) := H.ld 4 rfl rfl
    refine ⟨⟨by decide, by decide⟩, adr_some ⟨_, cc0 H, ptr_some ⟨some ⟨C.bb, 0, none⟩, by rw [add_none, add_none]; exact (core_open (H.nth 0 rfl)).ld 0 rfl rfl, ?_⟩⟩⟩
    obtain ⟨ho, hQ2⟩ := hQ1.tick (by omega)
    refine H.callx 1 rfl (cbus.tick_any (H.nth 1 rfl) hQ1.ok (by omega) hQ1.gs) fun z w5 H => ⟨_, _, _, rfl, ?_⟩
    have H := ((H.pick [1, 0, 2, 3, 4]).open_).pick [2, 0, 3, 4, 5]
    rw [show S1.tick.out.length = 0 by rw [ho]; rfl]
    have H : St W (owns (drvL x C K B S (some ⟨g, o, none⟩) cc lb)) w5 (drvL x C K1 B1 S1.tick.S (some ⟨g, o, none⟩) cc lb ++ [blk k (repC false cy nilS emptyS nilS nilS) 38]) := H
    refine H.st 4 rfl (by show 0 < 6; omega) fun w6 H => ?_
    have H : St W (owns (drvL x C K B S (some ⟨g, o, none⟩) cc lb)) w6 (drvL x C K1 B1 S1.tick.S (some ⟨g, o, none⟩) cc lb ++ [blk k (repC true cy nilS emptyS nilS nilS) 38]) := H
    refine ⟨fun i A => (i = 0 ∧ A = w6) ∨ (i = 1 ∧ ∃ K2, At C (cy + 1) K2.halted K2 ∧ St W (owns (drvL x C K B S (some ⟨g, o, none⟩) cc lb)) A (drvL x C K2 B1 S1.tick.S (some ⟨g, o, none⟩) cc lb ++ [blk k (repC K2.halted cy nilS emptyS nilS nilS) 38])), fun i _ => 1 - i.toNat, .inl ⟨rfl, rfl⟩, fun _ => ?_⟩
    rintro i w7 (⟨rfl, rfl⟩ | ⟨rfl, K2, hA2, H2⟩)
    · refine split_of (fun _ => ⟨⟨by decide, by decide⟩, adr_some ⟨_, cc0 H, (cy : Int), H.ld 4 rfl rfl, ptr_some ?_⟩⟩) (fun q => absurd (of_decide_eq_false q) (by decide))
      rw [add_none]
      have H := H.open_
      refine H.st 0 rfl (by show 29 < 34; omega) fun w8 H => ?_
      have H : St W (owns (drvL x C K B S (some ⟨g, o, none⟩) cc lb)) w8 ((K1.clock cy).pieces x C ++ [cbus.busA C.bb B1 S1.tick.S, sl 84 1 (.slice (some ⟨g, o, none⟩) 1 cc) 1 [.pointer (some ⟨x, 0, none⟩)], blk lb #[.slice none 0 0] 57, blk k (repC true cy nilS emptyS nilS nilS) 38]) := H
      have H := H.shut
      refine ⟨⟨by decide, by decide⟩, adr_some ⟨_, _, _, H.ld 3 rfl rfl, fun i A => i = 0 ∧ A = w8, fun _ _ => 0, ⟨rfl, rfl⟩, fun _ => ?_⟩⟩
      rintro i w9 ⟨rfl, rfl⟩
      refine split_of (fun q => absurd (of_decide_eq_true q) (by decide)) (fun _ => ?_)
      refine H.callp (snoop_none _ _ _) ⟨rfl, ?_⟩
      refine H.callx 0 rfl (round_any (H.nth 0 rfl) hG hw hu (hA.clock cy) rfl) fun K2 w10 H => ⟨rfl, true, H.ld 4 rfl rfl, split_of (fun _ => ?_) (fun q => by cases q)⟩
      refine H.callq (ended_any (H.nth 0 rfl)) fun w11 H => ⟨_, rfl, H.st 4 rfl (by show 0 < 6; omega) fun w12 H => ?_⟩
      rintro z6 rfl
      exact ⟨.inr ⟨by decide, K2.1, K2.2, H⟩, by show 1 - (IntKind.wrap .i64 (0 + 1)).toNat < 1 - (0 : Int).toNat; decide⟩
    · refine split_of (fun q => absurd (of_decide_eq_true q) (by decide)) (fun _ => ⟨(cy : Int), H2.ld 4 rfl rfl, ?_⟩)
      rintro z9 rfl
      rw [w64 (by omega) (by omega)]
      refine H2.st 4 rfl (by show 1 < 6; omega) fun w8 H => ?_
      have H : St W (owns (drvL x C K B S (some ⟨g, o, none⟩) cc lb)) w8 (drvL x C K2 B1 S1.tick.S (some ⟨g, o, none⟩) cc lb ++ [blk k (repC K2.halted ((cy + 1 : Nat) : Int) nilS emptyS nilS nilS) 38]) := H
      refine ⟨⟨K2.halted, cy + 1, K2, B1, S1.tick.S, hA2, hQ2, H⟩, ?_⟩
      have c8 : w8.cell? ⟨k, 1, none⟩ = some (.int .i64 ((cy + 1 : Nat) : Int)) := H.ld 4 rfl rfl
      rw [msr_at c8, msr_at c4]
      omega
  clear H
  rintro w18 ⟨en, cy, K1, B1, S1, hA, hQ1, hcond, H⟩
  refine ⟨fun i A => (i = 0 ∧ A = w18) ∨ (i = 1 ∧ ∃ (p2 : Option Addr) (c2 : Nat) (es : List Value), St W (owns (drvL x C K B S (some ⟨g, o, none⟩) cc lb)) A (drvL x C K1 B1 S1 (some ⟨g, o, none⟩) cc lb ++ [blk k (repC en cy nilS emptyS (.slice p2 1 c2) nilS) 38])), fun i _ => 1 - i.toNat, .inl ⟨rfl, rfl⟩, fun _ => ?_⟩
  rintro i w19 (⟨rfl, rfl⟩ | ⟨rfl, p2, c2, es, H2⟩)
  · refine split_of (fun _ => ⟨⟨by decide, by decide⟩, adr_some ⟨_, cc0 H, H.al fun k18 w20 H => ?_⟩⟩) (fun q => absurd (of_decide_eq_false q) (by decide))
    have H : St W (owns (drvL x C K B S (some ⟨g, o, none⟩) cc lb)) w20 (drvL x C K1 B1 S1 (some ⟨g, o, none⟩) cc lb ++ [blk k (repC en cy nilS emptyS nilS nilS) 38, blk k18 zeros32 55]) := H
    refine ⟨fun i A => ∃ m : Nat, i = m ∧ m ≤ 32 ∧ St W (owns (drvL x C K B S (some ⟨g, o, none⟩) cc lb)) A (drvL x C K1 B1 S1 (some ⟨g, o, none⟩) cc lb ++ [blk k (repC en cy nilS emptyS nilS nilS) 38, blk k18 zeros32 55]), fun i _ => 32 - i.toNat, ⟨0, rfl, by decide, H⟩, fun _ => ?_⟩
    clear H
    rintro i w21 ⟨m, rfl, hm, H⟩
    refine split_of (fun q => ?_) (fun q => ?_)
    · have q := of_decide_eq_true q
      refine H.callp (committed_fin (H.nth 0 rfl) hA.fin hR m (by omega)) ⟨_, rfl, ⟨by omega, q⟩, ?_⟩
      rw [ix1, Nat.zero_add]
      refine H.st 5 rfl (by unfold zeros32; rw [ints_size, List.length_replicate]; omega) fun w23 H => ?_
      have e : zeros32.setIfInBounds m (.int .u32 0) = zeros32 := by unfold zeros32; rw [ints_set, List.set_replicate_self]
      rw [e] at H
      rintro z rfl
      rw [w64 (by omega) (by omega)]
      exact ⟨⟨m + 1, by omega, by omega, H⟩, by show 32 - ((m : Int) + 1).toNat < 32 - (m : Int).toNat; omega⟩
    · refine ⟨_, _, _, H.ld 4 rfl rfl, zeros32, rfl, H.cells 5 rfl, rfl, H.al fun k21 w24 H => ?_⟩
      have H := H.add (A := sl 55 32 (.slice none 0 0) 0 []) ⟨Sl.nil _ _ _, XTouch.refl _ _, fun q e => by cases e⟩
      refine H.app 7 (m := 1) rfl zeros32.toList (.inr ⟨_, rfl, fun j u hj => by rw [add_none]; exact H.ld 6 (i := 0 + j) rfl (by simpa using hj)⟩) rfl zeros_one (by decide) (by decide) fun p' c' w25 H => H.st 4 rfl (by show 4 < 6; omega) fun w26 H => ?_
      rintro z12 rfl
      exact ⟨.inr ⟨by decide, p', c', [], H.take 5⟩, by show 1 - (IntKind.wrap .i64 (0 + 1)).toNat < 1 - (0 : Int).toNat; decide⟩
  · refine split_of (fun q => absurd (of_decide_eq_true q) (by decide)) (fun _ => ?_)
    have H := H2.pick [4, 0, 1, 2, 3]
    have hlen : S1.len = 0 := by unfold cbus.PB.len; rw [hQ1.mem]; rfl
    have cX : ∀ {A : World} {M : Nat → Prop} {R : Asn} {L : List Asn}, St W M A (R :: coreA x C K1 :: cbus.busA C.bb B1 S1 :: sl 84 1 (.slice (some ⟨g, o, none⟩) 1 cc) 1 [.pointer (some ⟨x, 0, none⟩)] :: L) → A.cell? ⟨g, o + 0, none⟩ = some (.pointer (some ⟨x, 0, none⟩)) := fun H => by
      obtain ⟨g', o', e, hc⟩ := slcore (H.nth 3 rfl : Sl _ 84 1 (.slice (some ⟨g, o, none⟩) 1 cc) 1 [.pointer (some ⟨x, 0, none⟩)])
      cases e; exact hc
    have ldE : ∀ {A : World} {M : Nat → Prop} {R : Asn} {L : List Asn}, St W M A (R :: coreA x C K1 :: L) → A.cell? ((⟨C.tb, 0, none⟩ : Addr).add 0) = some (.slice K1.ep K1.en K1.ec) := fun H => by rw [add_none]; exact (core_open (H.nth 1 rfl)).ld 8 rfl rfl
    have ldO : ∀ {A : World} {M : Nat → Prop} {R : Asn} {L : List Asn}, St W M A (R :: coreA x C K1 :: L) → A.cell? ((⟨C.tb, 0, none⟩ : Addr).add 1) = some (.slice none 0 0) := fun H => by rw [add_none]; exact (core_open (H.nth 1 rfl)).ld 8 rfl rfl
    have bts : ∀ A : World, Sx.Bts A none 0 [] := fun _ => ⟨rfl, fun h => absurd h (by decide)⟩
    have dat : ∀ {A : World} {M : Nat → Prop} {R : Asn} {L : List Asn}, St W M A (R :: coreA x C K1 :: cbus.busA C.bb B1 S1 :: L) → Calls Tryz.prog 53 #[.pointer (some ⟨C.bb, 0, none⟩)] A fun e w => ∃ z : Option Addr × Nat, e = .returned (.slice z.1 S1.len z.2) ∧ Sep.Post emp A (cbus.memA z.1 z.2 S1.data) w := fun H => cbus.data_any (H.nth 2 rfl) hQ1.ok hQ1.gs
    refine ⟨fun A => ∃ (z : Option Addr × Nat) (L : List Asn), St W (owns (drvL x C K B S (some ⟨g, o, none⟩) cc lb)) A (blk k (repC en cy (.slice K1.ep K1.en K1.ec) (.string (Sx.bstr [])) (.slice p2 1 c2) (.slice z.1 S1.len z.2)) 38 :: coreA x C K1 :: L), H.dr fun w27 H => Sep.ptr_some (Sep.ptr_some ⟨⟨by decide, by decide⟩, adr_some ⟨_, cX H, Sep.ptr_some ⟨some ⟨C.bb, 0, none⟩, by rw [add_none, add_none]; exact (core_open (H.nth 1 rfl)).ld 0 rfl rfl, ?_⟩⟩⟩), fun _ => ?_⟩
    · repeat' first
        | exact ⟨z, _, H⟩
        | refine H.st 0 rfl (Nat.lt_of_lt_of_le (by decide : _ < 6) (Nat.le_refl 6)) fun w H => ?_
        | refine H.calln (dat H) fun z w H => ⟨_, _, _, rfl, ?_⟩
        | refine ⟨[], bts _, ?_⟩
        | refine ⟨Below.refl _ _, ?_⟩
        | refine ⟨_, _, _, ldE H, ?_⟩
        | refine ⟨_, _, _, ldO H, ?_⟩
        | refine ⟨?_, ?_⟩
    clear H
    rintro w31 ⟨z, L9, H⟩
    rw [hlen] at H
    refine ⟨_, rfl, H.cells 0 rfl, H.sts0 0 rfl rfl rfl (rep_one en cy rfl rfl rfl rfl) fun w32 H => ⟨repC en cy (.slice K1.ep K1.en K1.ec) (.string (Sx.bstr [])) (.slice p2 1 c2) (.slice z.1 0 z.2), rfl, H.cells 0 rfl, ⟨en, cy, _, p2, _, _, _, c2, _, _, rfl, hcond⟩, (core_open (H.nth 1 rfl)).nth 1 rfl, H.touch⟩⟩
end Go.Proofs.YthacioiefgabbaaGreatDoor
