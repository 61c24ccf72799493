/- A hart: Do. No condition but the tables as they are laid. -/
import Derived.Test.YtcpmgklhfpcaeaaGreatDoorArchC
namespace Go.Proofs.YtcpmgklhfpcaeaaGreatDoor
open Go.RowKit Go.XHeap Go.Sx Go.Sep
set_option linter.unusedVariables false
set_option maxRecDepth 100000

variable {W w : World} {g : HP} {S S' : HS} {L : List Asn} {B : Nat} {M : Nat → Prop} {W0 : World}
theorem operF_u {op imm pc a b : Int} (hp : U32 pc) (ha : U32 a) (hb : U32 b) : U32 (operF op imm pc a b).1 ∧ U32 (operF op imm pc a b).2 := by
  unfold operF
  split
  · exact ⟨hp, wr_u _⟩
  · split
    · exact ⟨ha, wr_u _⟩
    · exact ⟨ha, hb⟩
theorem targF_u (op imm pc a : Int) : U32 (targF op imm pc a) := by
  unfold targF
  split
  · exact andn32_u _ _
  · exact wr_u _
theorem whereF_u {op imm a : Int} (ha : U32 a) : U32 (whereF op imm a) := by
  unfold whereF
  split
  · exact ha
  · exact wr_u _
/-! ### the cases of the middle -/
section mid
variable {loaded : Int} {held : Bool}
theorem mid_alu (h : classP S.ins.op = 0 ∨ classP S.ins.op = 1) : S.mid loaded held = .go (alu.execF S.ins.op (operF S.ins.op S.ins.imm S.pc (S.reg S.ins.rs1) (S.reg S.ins.rs2)).1 (operF S.ins.op S.ins.imm S.pc (S.reg S.ins.rs1) (S.reg S.ins.rs2)).2) S.p4 S.R := by
  unfold HS.mid; exact if_pos h
theorem mid_branch (h0 : ¬ (classP S.ins.op = 0 ∨ classP S.ins.op = 1)) (h : classP S.ins.op = 2) : S.mid loaded held = .go 0 (if alu.takenF S.ins.op (S.reg S.ins.rs1) (S.reg S.ins.rs2) then targF S.ins.op S.ins.imm S.pc (S.reg S.ins.rs1) else S.p4) S.R := by
  unfold HS.mid; exact (if_neg h0).trans (if_pos h)
theorem mid_jump (h0 : ¬ (classP S.ins.op = 0 ∨ classP S.ins.op = 1)) (h2 : ¬ classP S.ins.op = 2) (h : classP S.ins.op = 3) : S.mid loaded held = .go S.p4 (targF S.ins.op S.ins.imm S.pc (S.reg S.ins.rs1)) S.R := by
  unfold HS.mid; exact ((if_neg h0).trans (if_neg h2)).trans (if_pos h)
theorem mid_sys (h : classP S.ins.op = 7) : S.mid loaded held = if S.ins.op = 58 then .trap 11 0 else if S.ins.op = 59 then .trap 3 S.pc else if S.ins.op = 60 then .go 0 (S.R.back.at 833) S.R.back else if S.ins.op = 57 ∨ S.ins.op = 61 then .go 0 S.p4 S.R
    else if (S.R.access S.ins.op S.ins.rs1 S.ins.imm (S.reg S.ins.rs1)).2.1 then .go (S.R.access S.ins.op S.ins.rs1 S.ins.imm (S.reg S.ins.rs1)).1 S.p4 (S.R.access S.ins.op S.ins.rs1 S.ins.imm (S.reg S.ins.rs1)).2.2 else .trap 2 S.word := by
  unfold HS.mid; exact (((if_neg (by omega)).trans (if_neg (by omega))).trans (if_neg (by omega))).trans (if_pos h)
theorem mid_mem (h0 : ¬ (classP S.ins.op = 0 ∨ classP S.ins.op = 1)) (h2 : ¬ classP S.ins.op = 2) (h3 : ¬ classP S.ins.op = 3) (h7 : ¬ classP S.ins.op = 7) : S.mid loaded held =
    if reachF S.ins.op (whereF S.ins.op S.ins.imm (S.reg S.ins.rs1)) S.data ≠ -1 then .trap (reachF S.ins.op (whereF S.ins.op S.ins.imm (S.reg S.ins.rs1)) S.data) (whereF S.ins.op S.ins.imm (S.reg S.ins.rs1)) else .go (if S.ins.op = 47 then (if held then 0 else 1) else alu.widenF S.ins.op loaded) S.p4 S.R := by
  unfold HS.mid; exact (((if_neg h0).trans (if_neg h2)).trans (if_neg h3)).trans (if_neg h7)
theorem done_mid (h : ¬ S.halted = true) (ht : ¬ S.there = false) (hd : ¬ decOk S.word = false) : S.done loaded held = match S.mid loaded held with
    | .trap cause tval => S.trap S.word cause tval
    | .go v next R => S.fin v next R := by
  unfold HS.done; exact ((if_neg h).trans (if_neg ht)).trans (if_neg hd)
end mid
theorem not_t {b : Bool} (h : (!b) = true) : b = false := by simpa using h
theorem not_f {b : Bool} (h : (!b) = false) : b = true := by simpa using h
theorem access_any {r m : Nat} {R : RS} {W : World} (hA : (regsA r m R).at_ W) (i : Ins) (a : Int) : Calls Tryz.prog 49 #[.pointer (some ⟨r, 0, none⟩), .agg i.vs, .int .u32 a] W fun e w => e = .returned (.tuple #[.int .u32 (R.access i.op i.rs1 i.imm a).1, .bool (R.access i.op i.rs1 i.imm a).2.1]) ∧ Sep.Post (regsA r m R) W (regsA r m (R.access i.op i.rs1 i.imm a).2.2) w := by
  refine vc49 r 0 i.vs a ((St.begin hA).al fun k w2 H => ?_)
  refine ⟨fun x w => x = (if 65 ≤ i.op then wr i.rs1 else a) ∧ St W (regsA r m R).own w [regsA r m R, blk k i.vs 83], ⟨_, H.ld 1 rfl rfl, split_of (fun q => ?_) (fun q => ?_)⟩, ?_⟩
  · have q := of_decide_eq_true q
    refine ⟨_, H.ld 1 rfl rfl, ?_⟩
    rintro z rfl
    exact ⟨(if_pos q).symm, H⟩
  · have q := of_decide_eq_false q
    exact ⟨(if_neg q).symm, H⟩
  rintro J x w3 ⟨hx, H⟩
  refine ⟨_, H.ld 1 rfl rfl, H.callp (get_any (H.nth 0 rfl) i.imm) ⟨_, _, rfl, ?_⟩⟩
  refine ⟨fun x w => x = decide (i.op = 62 ∨ i.op = 65) ∧ St W (regsA r m R).own w [regsA r m R, blk k i.vs 83], ⟨_, H.ld 1 rfl rfl, split_of (fun q => ?_) (fun q => ⟨_, H.ld 1 rfl rfl, ?_⟩)⟩, ?_⟩
  · exact ⟨(decide_eq_true (.inl (beq_i q))).symm, H⟩
  · refine ⟨?_, H⟩
    have q := bne_i q
    by_cases h : i.op = 65
    · rw [decide_eq_true (.inr h)]; exact beq_iff_eq.2 h
    · rw [decide_eq_false (by omega)]; exact beq_eq_false_iff_ne.2 h
  rintro J2 sw w5 ⟨hs, H⟩
  refine ⟨fun w => ¬ (¬ (i.op = 62 ∨ i.op = 65) ∧ i.rs1 = 0) ∧ St W (regsA r m R).own w [regsA r m R, blk k i.vs 83], ?_, ?_⟩
  · refine split_of (fun q => ⟨_, H.ld 1 rfl rfl, split_of (fun q2 => ?_) (fun q2 => ?_)⟩) (fun q => ?_)
    · have q := not_t q
      rw [hs] at q
      have q := of_decide_eq_false q
      have e : R.access i.op i.rs1 i.imm a = (R.get i.imm, RS.has i.imm, R) := by unfold RS.access; exact if_pos ⟨q, beq_i q2⟩
      rw [e]
      exact ⟨rfl, H.post 0 rfl⟩
    · exact ⟨fun h => bne_i q2 h.2, H⟩
    · have q := not_f q
      rw [hs] at q
      exact ⟨fun h => h.1 (of_decide_eq_true q), H⟩
  rintro J3 w6 ⟨hn, H⟩
  refine split_of (fun q => ?_) (fun q => ?_)
  · have e : R.access i.op i.rs1 i.imm a = (0, false, R) := by unfold RS.access; exact (if_neg hn).trans (if_pos (.inl (not_t q)))
    rw [e]
    exact ⟨rfl, H.post 0 rfl⟩
  refine ⟨_, H.ld 1 rfl rfl, by decide, ?_⟩
  have e1 : Int.fdiv i.imm (2 ^ min 10 (IntKind.bits .i64)) = i.imm / 1024 := by
    rw [show (2 : Int) ^ min 10 (IntKind.bits .i64) = 1024 from rfl, Int.fdiv_eq_ediv_of_nonneg _ (by decide)]
  rw [e1]
  rintro z rfl
  refine split_of (fun q2 => ?_) (fun q2 => ?_)
  · have e : R.access i.op i.rs1 i.imm a = (0, false, R) := by unfold RS.access; exact (if_neg hn).trans (if_pos (.inr (beq_i q2)))
    rw [e]
    exact ⟨rfl, H.post 0 rfl⟩
  have e : R.access i.op i.rs1 i.imm a = (R.get i.imm, true, R.set i.imm (R.newv i.op i.imm x)) := by
    unfold RS.access
    rw [hx]
    exact (if_neg hn).trans (if_neg (by rintro (h | h); exact absurd (not_f q) (by rw [h]; decide); exact bne_i q2 h))
  rw [e]
  refine ⟨fun y w => y = R.newv i.op i.imm x ∧ St W (regsA r m R).own w [regsA r m R, blk k i.vs 83], ⟨_, H.ld 1 rfl rfl, split_of (fun t => ?_) (fun t => split_of (fun t2 => ?_) (fun t2 => split_of (fun t3 => ?_) (fun t3 => split_of (fun t4 => ?_) (fun t4 => ?_))))⟩, ?_⟩
  · rintro z rfl
    refine ⟨?_, H⟩
    unfold RS.newv; exact (if_pos (.inl (beq_i t))).symm
  · rintro z rfl
    refine ⟨?_, H⟩
    unfold RS.newv; exact (if_pos (.inr (beq_i t2))).symm
  · rintro z rfl
    refine ⟨?_, H⟩
    have := bne_i t; have := bne_i t2
    unfold RS.newv; exact ((if_neg (by omega)).trans (if_pos (.inl (beq_i t3)))).symm
  · rintro z rfl
    refine ⟨?_, H⟩
    have := bne_i t; have := bne_i t2
    unfold RS.newv; exact ((if_neg (by omega)).trans (if_pos (.inr (beq_i t4)))).symm
  · refine ⟨?_, H⟩
    have := bne_i t; have := bne_i t2; have := bne_i t3; have := bne_i t4
    unfold RS.newv; exact ((if_neg (by omega)).trans (if_neg (by omega))).symm
  rintro J4 y w7 ⟨rfl, H⟩
  exact ⟨_, H.ld 1 rfl rfl, H.call 0 rfl (set_any (H.nth 0 rfl) i.imm _) fun w8 H => ⟨rfl, rfl, H.post 0 rfl⟩⟩
theorem decode_s (hT : Tabs B w) (ho : S.Ok) : Calls Tryz.prog 31 #[.int .u32 S.word] w fun e w' => e = .returned (.tuple #[.agg S.ins.vs, .bool (decOk S.word)]) ∧ Hush w w' := decode_q hT S.word ho.word
theorem do_any (hA : (hartA g S).at_ W) (ho : S.Ok) (hT : Tabs B W) (hi : ∀ k, (hartA g S).own k → B ≤ k) {loaded : Int} (hl : U32 loaded) (held : Bool) :
    Calls Tryz.prog 13 #[.pointer (some ⟨g.b, 0, none⟩), .int .u32 loaded, .bool held] W fun e w => e = .returned (.agg (S.done loaded held).1.vs) ∧ Sep.Post (hartA g S) W (hartA g (S.done loaded held).2) w := by
  have h32 := ho.x32
  refine vc13 g.b 0 loaded held ((St.begin hA).al fun k w2 H => ⟨_, hl_ld H h32, split_of (fun q => ?_) (fun q => ?_)⟩)
  · refine H.dr fun w3 H => ⟨_, pc_ld H, _, pc_ld H, ?_⟩
    rintro vs rfl
    refine H.sts0 1 rfl rfl rfl (rt_one ⟨S.pc, 0, 0, 0, -1, 0, S.pc⟩) fun w4 H => ⟨_, rfl, H.cells 1 rfl, ?_⟩
    have e : S.done loaded held = (⟨S.pc, 0, 0, 0, -1, 0, S.pc⟩, S) := by unfold HS.done; exact if_pos q
    rw [e]
    exact ⟨rfl, H.post 0 rfl⟩
  have q : ¬ S.halted = true := by rw [q]; decide
  refine ⟨_, _, _, cd_ld H, _, pc_ld H, _, _, fun k5 => (word_any ((H.drewN k5).nth 0 rfl) ho).mono (fun e w' h => ⟨h.1, k5, h.2⟩), H.drN fun w6 H => split_of (fun q2 => ?_) (fun q2 => ?_)⟩
  · have q2 : S.there = false := by simpa using q2
    refine ⟨_, pc_ld H, trap_tail (L := []) H h32 rfl fun w8 H => ?_⟩
    have e : S.done loaded held = S.trap 0 1 S.pc := by unfold HS.done; exact (if_neg q).trans (if_pos q2)
    rw [e]
    exact ⟨rfl, H.post 0 rfl⟩
  have q2 : ¬ S.there = false := by intro h; rw [h] at q2; cases q2
  refine H.callq (decode_s (hT.st H hi) ho) fun w9 H => ⟨_, _, rfl, H.al fun k9 w10 H => H.sts0 2 rfl rfl rfl (ins_one S.ins) fun w11 H => split_of (fun q3 => ?_) (fun q3 => ?_)⟩
  · have q3 : decOk S.word = false := by simpa using q3
    refine trap_tail (L := [_]) H h32 rfl fun w8 H => ?_
    have e : S.done loaded held = S.trap S.word 2 S.word := by unfold HS.done; exact ((if_neg q).trans (if_neg q2)).trans (if_pos q3)
    rw [e]
    exact ⟨rfl, H.post 0 rfl⟩
  have q3 : ¬ decOk S.word = false := by intro h; rw [h] at q3; cases q3
  have hdone := done_mid (loaded := loaded) (held := held) q q2 q3
  have hok : S.ins.Ok := decF_ok S.word
  have ha : U32 (S.reg S.ins.rs1) := ho.reg _
  have hb : U32 (S.reg S.ins.rs2) := ho.reg _
  refine ⟨_, H.ld 2 rfl rfl, hok.2.1, _, x_ld H h32 _ hok.2.1.1 hok.2.1.2, _, H.ld 2 rfl rfl, hok.2.2, _, x_ld H h32 _ hok.2.2.1 hok.2.2.2, H.drN fun w14 H => ⟨_, pc_ld H, ?_⟩⟩
  rintro z rfl
  refine H.drN fun w15 H => ?_
  refine ⟨fun next v w => U32 next ∧ U32 v ∧ ∃ R : RS, R.Ok ∧ S.mid loaded held = .go v next R ∧ St W (hartA g S).own w [hartA g { S with R := R }, blk k noRt.vs 43, blk k9 S.ins.vs 83], ⟨_, H.ld 2 rfl rfl, H.callq (class_q (hT.st H hi) _) fun w16 H => ⟨_, rfl, ?_⟩⟩, ?_⟩
  · have alu_case : (classP S.ins.op = 0 ∨ classP S.ins.op = 1) → ∀ w17, St W (hartA g S).own w17 [hartA g S, blk k noRt.vs 43, blk k9 S.ins.vs 83] → Calls Tryz.prog 44 #[.agg S.ins.vs, .int .u32 S.pc, .int .u32 (S.reg S.ins.rs1), .int .u32 (S.reg S.ins.rs2)] w17 fun e w18 =>
        ∃ z z2 : Int, e = .returned (.tuple #[.int .u32 z, .int .u32 z2]) ∧ ∃ z3 : Int, w18.cell? ⟨k9, 0, none⟩ = some (.int .i64 z3) ∧ Calls Tryz.prog 45 #[.int .i64 z3, .int .u32 z, .int .u32 z2] w18 fun e w19 => ∃ z4 : Int, e = .returned (.int .u32 z4) ∧
          (U32 S.p4 ∧ U32 z4 ∧ ∃ R : RS, R.Ok ∧ S.mid loaded held = .go z4 S.p4 R ∧ St W (hartA g S).own w19 [hartA g { S with R := R }, blk k noRt.vs 43, blk k9 S.ins.vs 83]) := by
      intro hc w17 H
      have hu := operF_u (op := S.ins.op) (imm := S.ins.imm) ho.pc ha hb
      exact H.callq (oper_any (hT.st H hi) S.ins _ _ _) fun w18 H => ⟨_, _, rfl, _, H.ld 2 rfl rfl, H.callq (exec_q _ hu.1 hu.2 _) fun w19 H => ⟨_, rfl, wr_u _, execF_u hu.1 hu.2, S.R, ho.R, mid_alu hc, H⟩⟩
    refine split_of (fun c => ?_) (fun c => split_of (fun c1 => ?_) (fun c1 => split_of (fun c2 => ?_) (fun c2 => split_of (fun c3 => ?_) (fun c3 => split_of (fun c7 => ?_) (fun c7 => ?_)))))
    · have c := beq_i c
      exact H.dr fun w17 H => ⟨_, rfl, H.cells 2 rfl, _, pc_ld H, alu_case (.inl c) w17 H⟩
    · have c1 := beq_i c1
      exact H.dr fun w17 H => ⟨_, rfl, H.cells 2 rfl, _, pc_ld H, alu_case (.inr c1) w17 H⟩
    · have n0 : ¬ (classP S.ins.op = 0 ∨ classP S.ins.op = 1) := by have := bne_i c; have := bne_i c1; omega
      have c2 := beq_i c2
      have hm := mid_branch (loaded := loaded) (held := held) n0 c2
      refine ⟨_, H.ld 2 rfl rfl, H.callp (taken_q _ ha hb _) ⟨_, rfl, split_of (fun t => ?_) (fun t => ?_)⟩⟩
      · rw [if_pos t] at hm
        exact H.dr fun w24 H => ⟨_, rfl, H.cells 2 rfl, _, pc_ld H, H.callq (targ_any S.ins _ _ _) fun w25 H => ⟨_, rfl, targF_u _ _ _ _, u32_lit (by decide) (by decide), S.R, ho.R, hm, H⟩⟩
      · rw [if_neg (by rw [t]; decide)] at hm
        exact ⟨wr_u _, u32_lit (by decide) (by decide), S.R, ho.R, hm, H⟩
    · have n0 : ¬ (classP S.ins.op = 0 ∨ classP S.ins.op = 1) := by have := bne_i c; have := bne_i c1; omega
      have c2 := bne_i c2
      have c3 := beq_i c3
      have hm := mid_jump (loaded := loaded) (held := held) n0 c2 c3
      exact H.dr fun w24 H => ⟨_, rfl, H.cells 2 rfl, _, pc_ld H, H.callq (targ_any S.ins _ _ _) fun w25 H => ⟨_, rfl, targF_u _ _ _ _, wr_u _, S.R, ho.R, hm, H⟩⟩
    · have c7 := beq_i c7
      have hm := mid_sys (loaded := loaded) (held := held) c7
      refine ⟨_, H.ld 2 rfl rfl, split_of (fun t => ?_) (fun t => split_of (fun t2 => ?_) (fun t2 => split_of (fun t3 => ?_) (fun t3 => split_of (fun t4 => ?_) (fun t4 => split_of (fun t5 => ?_) (fun t5 => ?_)))))⟩
      · rw [if_pos (beq_i t)] at hm
        refine trap_tail (L := [_]) H h32 rfl fun w8 H => ?_
        rw [hdone, hm]
        exact ⟨rfl, H.post 0 rfl⟩
      · rw [if_neg (bne_i t), if_pos (beq_i t2)] at hm
        refine ⟨_, pc_ld H, trap_tail (L := [_]) H h32 rfl fun w8 H => ?_⟩
        rw [hdone, hm]
        exact ⟨rfl, H.post 0 rfl⟩
      · rw [if_neg (bne_i t), if_neg (bne_i t2), if_pos (beq_i t3)] at hm
        refine ⟨_, rg_ld H, (back_any ((hart_open (H.nth 0 rfl)).nth 1 rfl)).mono ?_⟩
        rintro e w62 ⟨rfl, hp⟩
        have H := H.upd 0 rfl (regs_post (H.nth 0 rfl) hp)
        exact ⟨_, rfl, (ho.R.back).at 833, u32_lit (by decide) (by decide), _, ho.R.back, hm, H⟩
      · rw [if_neg (bne_i t), if_neg (bne_i t2), if_neg (bne_i t3), if_pos (.inl (beq_i t4))] at hm
        exact ⟨wr_u _, u32_lit (by decide) (by decide), S.R, ho.R, hm, H⟩
      · rw [if_neg (bne_i t), if_neg (bne_i t2), if_neg (bne_i t3), if_pos (.inr (beq_i t5))] at hm
        exact ⟨wr_u _, u32_lit (by decide) (by decide), S.R, ho.R, hm, H⟩
      · rw [if_neg (bne_i t), if_neg (bne_i t2), if_neg (bne_i t3), if_neg (by have := bne_i t4; have := bne_i t5; omega)] at hm
        have hac := ho.R.access S.ins.op S.ins.rs1 S.ins.imm (S.reg S.ins.rs1)
        refine H.dr fun w33 H => ⟨_, rg_ld H, _, rfl, H.cells 2 rfl, (access_any ((hart_open (H.nth 0 rfl)).nth 1 rfl) S.ins _).mono ?_⟩
        rintro e w34 ⟨rfl, hp⟩
        have H := H.upd 0 rfl (regs_post (H.nth 0 rfl) hp)
        refine ⟨_, _, rfl, split_of (fun t6 => ?_) (fun t6 => ?_)⟩
        · have t6 : (S.R.access S.ins.op S.ins.rs1 S.ins.imm (S.reg S.ins.rs1)).2.1 = false := by simpa using t6
          rw [if_neg (by rw [t6]; decide)] at hm
          have hR : (S.R.access S.ins.op S.ins.rs1 S.ins.imm (S.reg S.ins.rs1)).2.2 = S.R := by
            revert t6
            unfold RS.access
            split
            · intro; rfl
            · split
              · intro; rfl
              · intro h; cases h
          rw [hR] at H
          refine trap_tail (L := [_]) H h32 rfl fun w8 H => ?_
          rw [hdone, hm]
          exact ⟨rfl, H.post 0 rfl⟩
        · have t6 : (S.R.access S.ins.op S.ins.rs1 S.ins.imm (S.reg S.ins.rs1)).2.1 = true := by simpa using t6
          rw [if_pos t6] at hm
          exact ⟨wr_u _, hac.2, _, hac.1, hm, H⟩
    · have n0 : ¬ (classP S.ins.op = 0 ∨ classP S.ins.op = 1) := by have := bne_i c; have := bne_i c1; omega
      have hm := mid_mem (loaded := loaded) (held := held) n0 (bne_i c2) (bne_i c3) (bne_i c7)
      refine ⟨_, rfl, H.cells 2 rfl, H.callq (where_any (hT.st H hi) S.ins _) fun w37 H => ⟨_, rfl, H.dr fun w38 H => ⟨_, H.ld 2 rfl rfl, _, dt_ld H, H.callq (reach_any (hT.st H hi) _ _ _) fun w39 H => ⟨_, rfl, split_of (fun t => ?_) (fun t => ?_)⟩⟩⟩⟩
      · rw [if_pos (bne_t t)] at hm
        refine H.dr fun w40 H => ⟨_, H.ld 2 rfl rfl, _, dt_ld H, (reach_any (hT.st H hi) _ _ _).mono ?_⟩
        rintro e w41 ⟨rfl, hh⟩
        have H := H.quiet hh
        refine ⟨_, rfl, hh.below (Nat.le_refl _) (fun _ e => e.elim), trap_tail (L := [_]) H h32 rfl fun w8 H => ?_⟩
        rw [hdone, hm]
        exact ⟨rfl, H.post 0 rfl⟩
      · rw [if_neg (fun h => h (bne_f t))] at hm
        refine ⟨_, H.ld 2 rfl rfl, H.callp (widen_q _ hl _) ⟨_, rfl, _, H.ld 2 rfl rfl, split_of (fun t2 => split_of (fun t3 => ?_) (fun t3 => ?_)) (fun t2 => ?_)⟩⟩
        · rw [if_pos (beq_i t2), if_pos t3] at hm
          exact ⟨wr_u _, u32_lit (by decide) (by decide), S.R, ho.R, hm, H⟩
        · rw [if_pos (beq_i t2), if_neg (by rw [t3]; decide)] at hm
          exact ⟨wr_u _, u32_lit (by decide) (by decide), S.R, ho.R, hm, H⟩
        · rw [if_neg (bne_i t2)] at hm
          exact ⟨wr_u _, widenF_u hl, S.R, ho.R, hm, H⟩
  · rintro J next v w45 ⟨hn, hv, R, hR, hm, H⟩ z rfl
    rw [hm] at hdone
    have hdone : S.done loaded held = S.fin v next R := hdone
    refine split_of (fun t => ?_) (fun t => ?_)
    · refine trap_tail (L := [_]) H h32 rfl fun w8 H => ?_
      have e : S.fin v next R = ({ S with R := R } : HS).trap S.word 0 next := by unfold HS.fin; exact if_pos (bne_t t)
      rw [hdone, e]
      exact ⟨rfl, H.post 0 rfl⟩
    · have e : S.fin v next R = (⟨S.pc, S.word, if S.wrs then S.ins.rd else 0, if S.wrs then v else 0, -1, 0, next⟩, { S with R := R.counted, pc := next, x := if S.wrs then S.x.set S.ins.rd.toNat v else S.x }) := by
        unfold HS.fin; exact if_neg (fun h => h (bne_f t))
      rw [hdone, e]
      refine ⟨_, pc_ld H, ?_⟩
      rintro vs rfl
      refine H.al fun k19 w48 H => H.sts0 3 rfl rfl rfl (rt_one ⟨S.pc, S.word, 0, 0, -1, 0, next⟩) fun w49 H => ?_
      refine ⟨fun w => St W (hartA g S).own w [hartA g { S with R := R, x := if S.wrs then S.x.set S.ins.rd.toNat v else S.x }, blk k noRt.vs 43, blk k9 S.ins.vs 83, blk k19 (⟨S.pc, S.word, if S.wrs then S.ins.rd else 0, if S.wrs then v else 0, -1, 0, next⟩ : Rt).vs 43], ?_, ?_⟩
      · refine ⟨_, H.ld 2 rfl rfl, H.callq (writes_q (hT.st H hi) _) fun w50 H => ⟨_, rfl, split_of (fun t1 => ⟨_, H.ld 2 rfl rfl, split_of (fun t2 => ?_) (fun t2 => ?_)⟩) (fun t1 => ?_)⟩⟩
        · have hw : S.wrs = true := by unfold HS.wrs; rw [t1]; exact t2
          rw [hw, if_pos rfl, if_pos rfl, if_pos rfl]
          refine ⟨_, H.ld 2 rfl rfl, H.st 3 rfl (show 2 < 7 by decide) fun w51 H => H.st 3 rfl (show 3 < 7 by decide) fun w52 H => H.dr fun w53 H => ⟨_, H.ld 2 rfl rfl, hok.1, ?_⟩⟩
          have hrd : S.ins.rd.toNat < 32 := by have := hok.1; omega
          rw [show 0 + 4 + S.ins.rd.toNat * 1 = 4 + S.ins.rd.toNat by omega]
          have hc := root_cell (H.nth 0 rfl) h32 (i := 4 + S.ins.rd.toNat) (by omega)
          refine ⟨hc.1, hc.2, ?_⟩
          rintro w54 rfl
          exact H.upd 0 rfl (x_post (H.nth 0 rfl) h32 hrd v)
        · have hw : S.wrs = false := by unfold HS.wrs; rw [show decide (0 < S.ins.rd) = false from t2, Bool.and_false]
          rw [hw]
          exact H
        · have hw : S.wrs = false := by unfold HS.wrs; rw [t1]; rfl
          rw [hw]
          exact H
      · intro J w55 H
        have h32' : ({ S with R := R, x := if S.wrs then S.x.set S.ins.rd.toNat v else S.x } : HS).x.length = 32 := by
          show (if S.wrs then S.x.set S.ins.rd.toNat v else S.x).length = 32
          split
          · rw [List.length_set]; exact h32
          · exact h32
        have hc := root_cell (H.nth 0 rfl) h32' (i := 0 + 3) (by decide)
        refine ⟨hc.1, hc.2, ?_⟩
        rintro w56 rfl
        have H := H.upd 0 rfl (pc_post (H.nth 0 rfl) h32' next)
        refine ⟨_, rg_ld H, (count_any ((hart_open (H.nth 0 rfl)).nth 1 rfl)).mono ?_⟩
        rintro e w57 ⟨rfl, hp⟩
        have H := H.upd 0 rfl (regs_post (H.nth 0 rfl) hp)
        exact ⟨rfl, _, rfl, H.cells 3 rfl, H.sts0 1 rfl rfl rfl (rt_one _) fun w58 H => ⟨_, rfl, H.cells 1 rfl, rfl, H.post 0 rfl⟩⟩
end Go.Proofs.YtcpmgklhfpcaeaaGreatDoor
