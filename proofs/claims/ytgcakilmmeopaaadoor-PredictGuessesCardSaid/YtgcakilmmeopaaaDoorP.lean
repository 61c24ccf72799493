/- Part P of the proofs over 'predict': the law 'PredictLearns'. No condition but the tables. -/
import Derived.Test.YtgcakilmmeopaaaDoorO
import Derived.Test.YtgcakilmmeopaaaDoorJ
import Derived.Test.YtgcakilmmeopaaaDoorVcL
namespace Go.Proofs.YtgcakilmmeopaaaDoor
open Go.RowKit Go.XHeap Go.Sx Go.Sep
set_option linter.unusedVariables false
set_option maxRecDepth 100000

def bneI : In := ⟨6, 0, 1, 0, 64⟩
def jrI : In := ⟨4, 0, 5, 0, 0⟩
theorem class6 : classP 6 = 2 := by decide
/-- nothing is said of the history -/
structure Plain (S : PS) : Prop where
  hist : S.hist = 0
  mask : S.mask = 0
  tlt : S.top < S.stack.length
theorem on_bne {S : PS} (h : Plain S) (pc : Int) (t : Bool) : S.on pc bneI t = S := by
  cases S
  obtain ⟨h1, h2, h3⟩ := h
  simp only at h1 h2
  subst h1; subst h2
  unfold PS.on
  rw [if_pos (show classP bneI.op = 2 from class6), nh_zero]
theorem on_jr (S : PS) (pc : Int) (t : Bool) : S.on pc jrI t = S := by
  unfold PS.on
  rw [if_neg (by show ¬ classP 4 = 2; rw [class4]; decide), if_neg (by decide), if_neg (by show ¬ ((classP 4 == 3 && (0 : Int) == 1) = true); rw [class4]; decide)]
theorem whole_own {S : PS} (h : Plain S) : S.whole S.hist S.top = true := by
  have := h.tlt
  unfold PS.whole
  rw [if_pos (by rw [h.hist, h.mask]; decide)]
  simp; omega
theorem learn_bne {S : PS} (h : Plain S) (D : Dir) (T : List Tgt) (pc : Nat) (t : Bool) (to : Int) : S.learnD D S.hist S.top pc bneI t = D.learn pc 0 t ∧ S.learnT T S.hist S.top pc bneI to = T := by
  unfold PS.learnD PS.learnT
  rw [if_pos (whole_own h), if_pos (whole_own h), if_pos (show classP bneI.op = 2 from class6), if_pos (show classP bneI.op = 2 from class6), h.hist]
  exact ⟨rfl, rfl⟩
theorem learn_jr {S : PS} (h : Plain S) (D : Dir) (T : List Tgt) (pc : Nat) (t : Bool) (to : Int) : S.learnD D S.hist S.top pc jrI t = D ∧ S.learnT T S.hist S.top pc jrI to = T.set (pc / 4 % T.length) ((pc : Int), to, true) := by
  unfold PS.learnD PS.learnT
  have n2 : ¬ classP jrI.op = 2 := by show ¬ classP 4 = 2; rw [class4]; decide
  rw [if_pos (whole_own h), if_pos (whole_own h), if_neg n2, if_neg n2, if_pos (show jrI.op = 4 from rfl), if_neg (by decide)]
  exact ⟨rfl, rfl⟩
theorem Pg.learn {S : PS} {D : Dir} {T : List Tgt} {tb : Nat} (h : Pg S D T tb) (pc h' : Nat) (t : Bool) : Pg S (D.learn pc h' t) T tb :=
  ⟨h.dir.trans (Dir.val_learn D pc h' t).symm, Dir.ok_learn h.dok pc h' t, h.tc, h.tn, h.tl, h.tb, h.h0, h.h1⟩
theorem bump2 {n : Int} (h : 0 ≤ n ∧ n ≤ 3) (t : Bool) : decide (bump (bump n t) t > 1) = t := by
  unfold bump
  cases t
  · simp
    by_cases h1 : 0 < n
    · rw [if_pos h1]; split <;> omega
    · rw [if_neg h1]; omega
  · simp
    by_cases h1 : n < 3
    · rw [if_pos h1]; split <;> omega
    · rw [if_neg h1]; omega
theorem guess_twice {cb B : Nat} {l : List Int} (h : (Dir.tab false cb B l).ok) (pc : Nat) (t : Bool) (imm : Int) : ((((Dir.tab false cb B l).learn pc 0 t).learn pc 0 t)).guess pc 0 imm = t := by
  obtain ⟨h1, h2, h3⟩ := h
  have hlt : ixOf false B pc 0 < l.length := by rw [h2]; exact Nat.mod_lt _ (Nat.two_pow_pos B)
  show decide (((l.set _ _).set _ _).getD (ixOf false B pc 0) 0 > 1) = t
  rw [List.getD_eq_getElem?_getD, List.getElem?_set_self (by rw [List.length_set]; exact hlt), List.getD_eq_getElem?_getD, List.getElem?_set_self hlt]
  exact bump2 (h3 _ (List.mem_of_getElem? (getD_at hlt))) t
def Bools (W : World) (p : Option Addr) (n : Nat) : Prop := ∀ i, i < n → ∃ g o, p = some ⟨g, o, none⟩ ∧ g < W.heap.size ∧ ∃ x : Bool, W.cell? ⟨g, o + i, none⟩ = some (.bool x)
abbrev No : Nat → Prop := fun _ => False
theorem learns_ok {W : World} (hT : Tab W) (h3 : 3 ≤ W.heap.size) (a0 : Int) (b0 : -9223372036854775808 ≤ a0) (pc : Nat) (hp : pc < 4294967296) (a2 : Option Addr) (a2n a2c : Nat) (hb : Bools W a2 a2n) (t : Bool) (to : Int) :
    Calls Tryd.prog 4 #[.int .i64 a0, .int .u32 pc, .slice a2 a2n a2c, .bool t, .int .u32 to] W fun e w => e = .returned (.bool true) ∧ Hush W w := by
  have TT : ∀ {w : World} {L : List Asn}, St W No w L → Tab w := fun H => hT.keep H.touch (fun e => e) (fun e => e)
  have lo : ∀ {w : World} {A : Asn} {L : List Asn}, St W No w (A :: L) → ∀ k, A.own k → 3 ≤ k := fun H k hk => by
    rcases H.mine k (.inl hk) with e | e
    · exact e.elim
    · omega
  refine vc4 a0 pc a2 a2n a2c t to ((St.nil W).callp (pick_any W a0 10 b0 (by decide)) ⟨_, rfl, ?_⟩)
  have hk := pk_bound a0 10 (by decide)
  obtain ⟨B, hB, hB1, hB10⟩ : ∃ B : Nat, 1 + pk a0 10 = B ∧ 1 ≤ B ∧ B ≤ 10 := ⟨(1 + pk a0 10).toNat, by omega, by omega, by omega⟩
  rintro z2 rfl
  rw [w64 (by omega) (by omega), hB]
  rintro vs rfl
  refine (new_good W 2 B 0 3 4 (by decide) hB1 hB10 (Nat.zero_le _) (by decide) (by decide) (by decide)).mono ?_
  rintro e w3 ⟨b, cb, tb, sb, rfl, hP⟩
  have H : St W No w3 [pgA b (S0 (D0 2 B cb) 0 3 4 tb sb) (D0 2 B cb)] := (St.nil W).add hP
  have eD : D0 2 B cb = .tab false cb B (List.replicate (2 ^ B) 1) := rfl
  have hg : Pg (S0 (D0 2 B cb) 0 3 4 tb sb) (D0 2 B cb) (List.replicate 8 (0, 0, false)) 3 :=
    ⟨rfl, ⟨by omega, by simp, fun x hx => by rw [(List.mem_replicate.1 hx).2]; decide⟩, rfl, rfl, rfl, by decide, by show (0 : Int) ≤ 0; decide, by show (0 : Int) < 4294967296; decide⟩
  have hS : Plain (S0 (D0 2 B cb) 0 3 4 tb sb) := ⟨rfl, rfl, by show 0 < (List.replicate 4 (0 : Int)).length; decide⟩
  rw [eD] at H hg hS
  generalize S0 (Dir.tab false cb B (List.replicate (2 ^ B) 1)) 0 3 4 tb sb = S at H hg hS
  generalize List.replicate (2 ^ B) (1 : Int) = l at H hg
  generalize List.replicate 8 ((0, 0, false) : Tgt) = T at hg
  clear hP eD
  refine ⟨_, _, rfl, nil_true (split_of (fun q => by cases q) (fun _ => split_of (fun q => by cases q) (fun _ => ?_)))⟩
  rintro vs2 rfl
  refine H.al fun k w4 H => H.sts0 1 rfl rfl rfl (by intro v hv; simp at hv; rcases hv with rfl | rfl | rfl | rfl | rfl <;> rfl) fun w5 H => ?_
  refine ⟨fun w => ∃ l, Pg S (.tab false cb B l) T 3 ∧ St W No w [pgA b S (.tab false cb B l), blk k bneI.cells 33], ⟨fun x w => ∃ m : Nat, x = m ∧ ∃ l, Pg S (.tab false cb B l) T 3 ∧ St W No w [pgA b S (.tab false cb B l), blk k bneI.cells 33], fun x _ => a2n - x.toNat, ⟨0, rfl, l, hg, H⟩, fun _ => ?_⟩, fun _ => ?_⟩
  · clear H hg
    rintro x w6 ⟨m, rfl, l, hg, H⟩
    refine split_of (fun q => split_of (fun q2 => ?_) (fun _ => ⟨l, hg, H⟩)) (fun _ => ⟨l, hg, H⟩)
    have q := of_decide_eq_true q
    have q2 := of_decide_eq_true q2
    refine ⟨bneI.cells, rfl, H.cells 1 rfl, H.call 0 rfl (guessG (H.nth 0 rfl) hg (TT H) (lo H) pc hp bneI (by decide) (by decide)) fun w7 H => ?_⟩
    rw [on_bne hS] at H
    refine ⟨_, _, rfl, H.al fun k3 w8 H => H.sts0 2 rfl rfl rfl (mark_one S) fun w9 H => H.dr fun w10 H => ?_⟩
    obtain ⟨g, o, rfl, hg1, y, hy⟩ := hb m (by omega)
    refine ⟨S.mark, rfl, H.cells 2 rfl, bneI.cells, rfl, H.cells 1 rfl, ⟨by omega, q⟩, adr_some ⟨y, by rw [ix1]; exact (H.touch.cell (p := ⟨g, o + m, none⟩) hg1 (fun e => e)).trans hy, ?_⟩⟩
    refine H.call 0 rfl (learnG (H.nth 0 rfl) hg (TT H) (lo H) S.hist S.top (S.stack.getD S.top 0) (by rw [hS.mask]; decide) pc hp bneI (by decide) (by decide) y 0) fun w11 H => ⟨rfl, ?_⟩
    rw [(learn_bne hS _ T pc y 0).1, (learn_bne hS (.tab false cb B l) T pc y 0).2, tgts_self hg.tc] at H
    rintro z4 rfl
    rw [w64 (by omega) (by omega)]
    exact ⟨⟨m + 1, by omega, _, hg.learn pc 0 y, H.pick [0, 1]⟩, by show a2n - ((m : Int) + 1).toNat < a2n - (m : Int).toNat; omega⟩
  clear H hg
  rintro w12 ⟨l, hg, H⟩
  refine ⟨fun w => St W No w [pgA b S (((Dir.tab false cb B l).learn pc 0 t).learn pc 0 t), blk k bneI.cells 33], ⟨fun x w => ∃ D, Pg S D T 3 ∧ St W No w [pgA b S D, blk k bneI.cells 33] ∧ ((x = 0 ∧ D = .tab false cb B l) ∨ (x = 1 ∧ D = (Dir.tab false cb B l).learn pc 0 t) ∨ (x = 2 ∧ D = (((Dir.tab false cb B l).learn pc 0 t).learn pc 0 t))), fun x _ => 2 - x.toNat, ⟨_, hg, H, .inl ⟨rfl, rfl⟩⟩, fun _ => ?_⟩, fun _ => ?_⟩
  · clear H
    rintro x w13 ⟨D, hg, H, hx⟩
    refine split_of (fun q => ?_) (fun q => ?_)
    · have q := of_decide_eq_true q
      refine ⟨bneI.cells, rfl, H.cells 1 rfl, H.call 0 rfl (guessG (H.nth 0 rfl) hg (TT H) (lo H) pc hp bneI (by decide) (by decide)) fun w7 H => ?_⟩
      rw [on_bne hS] at H
      refine ⟨_, _, rfl, H.al fun k3 w8 H => H.sts0 2 rfl rfl rfl (mark_one S) fun w9 H => ?_⟩
      refine ⟨S.mark, rfl, H.cells 2 rfl, bneI.cells, rfl, H.cells 1 rfl, ?_⟩
      rintro z6 rfl
      refine H.call 0 rfl (learnG (H.nth 0 rfl) hg (TT H) (lo H) S.hist S.top (S.stack.getD S.top 0) (by rw [hS.mask]; decide) pc hp bneI (by decide) (by decide) t _) fun w11 H => ⟨rfl, ?_⟩
      rw [(learn_bne hS _ T pc t 0).1, (learn_bne hS D T pc t _).2, tgts_self hg.tc] at H
      rintro z4 rfl
      rcases hx with ⟨rfl, rfl⟩ | ⟨rfl, rfl⟩ | ⟨rfl, rfl⟩
      · exact ⟨⟨_, hg.learn pc 0 t, H.pick [0, 1], .inr (.inl ⟨rfl, rfl⟩)⟩, by show 2 - (1 : Int).toNat < 2 - (0 : Int).toNat; decide⟩
      · exact ⟨⟨_, hg.learn pc 0 t, H.pick [0, 1], .inr (.inr ⟨rfl, rfl⟩)⟩, by show 2 - (2 : Int).toNat < 2 - (1 : Int).toNat; decide⟩
      · omega
    · have q := of_decide_eq_false q
      rcases hx with ⟨rfl, rfl⟩ | ⟨rfl, rfl⟩ | ⟨rfl, rfl⟩
      · omega
      · omega
      · exact H
  clear H
  rintro w18 H
  have hg2 := (hg.learn pc 0 t).learn pc 0 t
  have hw := guess_twice hg.dok pc t bneI.imm
  generalize ((Dir.tab false cb B l).learn pc 0 t).learn pc 0 t = D at H hg2 hw
  refine ⟨bneI.cells, rfl, H.cells 1 rfl, H.call 0 rfl (guessG (H.nth 0 rfl) hg2 (TT H) (lo H) pc hp bneI (by decide) (by decide)) fun w7 H => ?_⟩
  rw [on_bne hS] at H
  have en : S.nextG D T pc bneI = if t then IntKind.wrap .u32 (pc + 64) else IntKind.wrap .u32 (pc + 4) := by
    unfold PS.nextG
    rw [if_pos (show classP bneI.op = 2 from class6), hS.hist, show (0 : Int).toNat = 0 from rfl, hw]
    rfl
  rw [en]
  refine ⟨_, _, rfl, H.al fun k9 w8 H => H.sts0 2 rfl rfl rfl (mark_one S) fun w9 H => ?_⟩
  rintro vs rfl
  refine H.al fun k11 w22 H => H.sts0 3 rfl rfl rfl (in_one jrI) fun w23 H => ?_
  refine ⟨jrI.cells, rfl, H.cells 3 rfl, H.call 0 rfl (guessG (H.nth 0 rfl) hg2 (TT H) (lo H) pc hp jrI (by decide) (by decide)) fun w24 H => ?_⟩
  rw [on_jr] at H
  refine ⟨_, _, rfl, H.al fun k13 w25 H => H.sts0 4 rfl rfl rfl (mark_one S) fun w26 H => ?_⟩
  refine ⟨S.mark, rfl, H.cells 4 rfl, jrI.cells, rfl, H.cells 3 rfl, ?_⟩
  refine H.call 0 rfl (learnG (H.nth 0 rfl) hg2 (TT H) (lo H) S.hist S.top (S.stack.getD S.top 0) (by rw [hS.mask]; decide) pc hp jrI (by decide) (by decide) true to) fun w27 H => ⟨rfl, ?_⟩
  rw [(learn_jr hS D T pc true to).1, (learn_jr hS D T pc true to).2] at H
  have hlt : pc / 4 % T.length < T.length := Nat.mod_lt _ (by rw [hg2.tl]; decide)
  have hg3 : Pg (S.tgts (T.set (pc / 4 % T.length) ((pc : Int), to, true))) D (T.set (pc / 4 % T.length) ((pc : Int), to, true)) 3 := ⟨hg2.dir, hg2.dok, rfl, hg2.tn, by rw [List.length_set]; exact hg2.tl, hg2.tb, hg2.h0, hg2.h1⟩
  have ea : tgtAt (T.set (pc / 4 % T.length) ((pc : Int), to, true)) pc = ((pc : Int), to, true) := by
    unfold tgtAt
    rw [List.length_set, List.getD_eq_getElem?_getD, List.getElem?_set_self hlt]
    rfl
  have ej : (S.tgts (T.set (pc / 4 % T.length) ((pc : Int), to, true))).nextG D (T.set (pc / 4 % T.length) ((pc : Int), to, true)) pc jrI = to := by
    unfold PS.nextG
    rw [if_neg (by show ¬ classP 4 = 2; rw [class4]; decide), if_neg (by decide), if_neg (by decide), if_pos (show jrI.op = 4 from rfl), ea, if_pos rfl, if_pos rfl]
  refine ⟨jrI.cells, rfl, H.cells 3 rfl, H.call 0 rfl (guessG (H.nth 0 rfl) hg3 (TT H) (lo H) pc hp jrI (by decide) (by decide)) fun w28 H => ?_⟩
  rw [ej]
  refine ⟨_, _, rfl, H.al fun k15 w29 H => H.sts0 5 rfl rfl rfl (mark_one _) fun w30 H => ?_⟩
  rintro z11 rfl
  refine split_of (fun q => ?_) (fun q => ?_)
  · subst q
    rintro z12 rfl
    exact split_of (fun _ => ⟨by simp, H.touch⟩) (fun q => by simp at q)
  · subst q
    exact split_of (fun _ => ⟨by simp, H.touch⟩) (fun q => by simp at q)
end Go.Proofs.YtgcakilmmeopaaaDoor
