/- The document's hart: memory, Do, Ask, Interrupt. Conditions: the code it reads. -/
import Derived.Test.YtcpmgklhfpcaeaaGreatDoorRefD
namespace Go.Proofs.YtcpmgklhfpcaeaaGreatDoor
open Go.RowKit Go.XHeap Go.Sx Go.Sep
set_option linter.unusedVariables false
set_option maxRecDepth 100000

variable {W w : World} {b cc : Nat} {cp : Option Addr} {S S' : HS} {L : List Asn} {B : Nat} {M : Nat → Prop} {W0 : World}
theorem rowsAt_blk {k : Nat} {t : TypeId} (h : Blk w k ROWS t) : RowsAt w k := by
  intro op h1 h2
  have e : (op.toNat - 1) * 5 = 5 * (op.toNat - 1) + 0 := by omega
  rw [e]
  exact ⟨h.cell' (rows_at op h1 h2 0 (by omega)), h.cell' (rows_at op h1 h2 1 (by omega)), h.cell' (rows_at op h1 h2 2 (by omega)), h.cell' (rows_at op h1 h2 3 (by omega)), h.cell' (rows_at op h1 h2 4 (by omega))⟩
theorem qrows_n (w : World) : Calls Tryz.prog 57 #[] w fun e w' => ∃ k : Nat, e = .returned (.slice (some ⟨k, 0, none⟩) 67 67) ∧ Sep.Post emp w (blk k ROWS 116) w' := by
  refine (rows_any w).mono ?_
  rintro e w' ⟨rfl, rfl⟩
  exact ⟨_, rfl, ((St.nil w).alloc ROWS 116).new 0 rfl⟩
theorem rmemory_any (hA : (refA b cp cc S).at_ W) (ho : S.Ok) (h2 : S.Ok2) (hh : S.halted = false) (hth : S.there = true) (hdk : decOk S.word = true) (hr : S.R.ret < 4294967295)
    (n0 : ¬ (classP S.ins.op = 0 ∨ classP S.ins.op = 1)) (n2 : ¬ classP S.ins.op = 2) (n3 : ¬ classP S.ins.op = 3) (n7 : ¬ classP S.ins.op = 7) (hms : alu.sizeF S.ins.op ≠ 0) {loaded : Int} (hl : U32 loaded) (held : Bool) :
    Calls Tryz.prog 59 #[.pointer (some ⟨b, 0, none⟩), .agg S.ins.vs, .int .u32 S.word, .int .u32 loaded, .bool held] W fun e w => e = .returned (.agg (S.done loaded held).1.vs) ∧ Sep.Post (refA b cp cc S) W (refA b cp cc (S.done loaded held).2) w := by
  have h32 := ho.x32
  obtain ⟨h1, h67⟩ : 1 ≤ S.ins.op ∧ S.ins.op ≤ 67 := decF_low hdk
  have hok : S.ins.Ok := decF_ok S.word
  have ha : U32 (S.reg S.ins.rs1) := ho.reg _
  obtain ⟨r1, r2, r3⟩ := row_ix h1 h67
  have hdone := done_mid (S := S) (loaded := loaded) (held := held) (by rw [hh]; decide) (by rw [hth]; decide) (by rw [hdk]; decide)
  have hm := mid_mem (S := S) (loaded := loaded) (held := held) n0 n2 n3 n7
  have hr0 : 0 ≤ S.R.ret ∧ S.R.ret < 4294967295 := ⟨ho.R.ret.1, hr⟩
  have hwr := writes_of h1 h67
  have h57 : ¬ 57 ≤ S.ins.op := fun h => n7 ((class7 h1 h67).2 h)
  rw [decide_eq_false n2, decide_eq_false h57, Bool.false_and, Bool.false_or, Bool.or_false] at hwr
  have p44 := p4_4 h2 ho
  have hwu : U32 (whereF S.ins.op S.ins.imm (S.reg S.ins.rs1)) := whereF_u ha
  refine vc59 b 0 S.ins.vs S.word loaded held ((St.begin hA).al fun k w2 H => H.al fun k2 w3 H => ?_)
  have H := H.pick [0, 2, 1]
  refine ⟨_, rfl, H.cells 2 rfl, H.call 0 rfl (rwhere_any (H.nth 0 rfl) h32 S.ins hok h1 h67) fun w4 H => ⟨_, rfl, _, H.ld 2 rfl rfl, H.call 0 rfl (rfault_any (H.nth 0 rfl) ⟨ho.data.1, ho.data.2.1⟩ h1 h67 hms hwu) fun w5 H => ⟨_, rfl, split_of (fun t => ?_) (fun t => ?_)⟩⟩⟩
  · rw [if_pos (bne_t t)] at hm
    rw [hm] at hdone
    rw [hdone]
    exact r_tail (L := [_]) H rfl (rtrap_any (H.nth 0 rfl) ho h2 hh _ _ hwu) fun w8 H => ⟨rfl, H.post 0 rfl⟩
  rw [if_neg (fun h => h (bne_f t))] at hm
  refine ⟨_, H.ld 2 rfl rfl, H.callq (qclass_q S.ins.op h1 h67 _) fun w8 H => ⟨_, rfl, H.calln (qrows_n w8) fun kr w9 H => ⟨_, _, _, rfl, _, H.ld 2 rfl rfl, H.callq (qwiden_q _ hl _) fun w10 H => ⟨_, rfl, ?_⟩⟩⟩⟩
  refine ⟨fun x w => x = (if S.ins.op = 47 then (if held then 0 else 1) else alu.widenF S.ins.op loaded) ∧ St W (refA b cp cc S).own w [refA b cp cc S, blk k2 noRt.vs 46, blk k S.ins.vs 92, blk kr ROWS 116], ⟨_, H.ld 2 rfl rfl, ?_⟩, fun _ => ?_⟩
  · rw [r1]
    rintro z rfl
    refine ⟨r2, adr_some ⟨(rowAt S.ins.op).1, ?_, ?_⟩⟩
    · rw [r3, Nat.zero_add]; exact (rowsAt_blk (H.blk 3 rfl) S.ins.op h1 h67).1
    rw [is_scw h1 h67]
    refine split_of (fun t => split_of (fun t2 => ⟨?_, H⟩) (fun t2 => ⟨?_, H⟩)) (fun t => ⟨?_, H⟩)
    · rw [if_pos (of_decide_eq_true t), if_pos t2]
    · rw [if_pos (of_decide_eq_true t), if_neg (by rw [t2]; decide)]
    · rw [if_neg (of_decide_eq_false t)]
  rintro v w11 ⟨hv, H⟩
  rw [← hv] at hm
  rw [hm] at hdone
  refine split_of (fun t => ⟨_, rpc_ld H, ?_⟩) (fun t => H.dr fun w14 H => ⟨_, H.ld 2 rfl rfl, _, rpc_ld H, ?_⟩)
  · rintro z rfl
    have e := fin_rdone ho (v := v) (R := S.R) (wr_u _) p44 (rd := 0) (by rw [hwr, decide_eq_true (beq_i t)]; rfl)
    have hd2 : S.done loaded held = S.rdone S.word 0 v S.p4 := hdone.trans e
    have hd3 : S.rdone S.word 0 v S.p4 = S.rdone S.word 0 0 S.p4 := by unfold HS.rdone; rw [if_pos rfl, if_pos rfl]
    rw [hd2, hd3]
    exact r_tail (L := [_, _]) H rfl (rdone_any (H.nth 0 rfl) h32 hr0 _ 0 0 _ (by decide)) fun w8 H => ⟨rfl, H.post 0 rfl⟩
  · rintro z rfl
    have e := fin_rdone ho (v := v) (R := S.R) (wr_u _) p44 (rd := S.ins.rd) (by rw [hwr, decide_eq_false (bne_i t)]; rfl)
    have hd2 : S.done loaded held = S.rdone S.word S.ins.rd v S.p4 := hdone.trans e
    rw [hd2]
    exact r_tail (L := [_, _]) H rfl (rdone_any (H.nth 0 rfl) h32 hr0 _ S.ins.rd v _ hok.1) fun w8 H => ⟨rfl, H.post 0 rfl⟩
theorem tab5 : ((List.range 67).all fun i => decide (0 ≤ classP (i + 1 : Nat) ∧ classP (i + 1 : Nat) ≤ 7)) = true := by kernel_rfl
theorem class_rng {op : Int} (h1 : 1 ≤ op) (h67 : op ≤ 67) : 0 ≤ classP op ∧ classP op ≤ 7 := by
  have h := rng_all tab5 h1 h67
  rw [show ((op.toNat - 1 + 1 : Nat) : Int) = op by omega] at h
  exact of_decide_eq_true h
/-! ### Do -/
theorem rdo_any (hA : (refA b cp cc S).at_ W) (ho : S.Ok) (h2 : S.Ok2) (hs : Src B W cp S.code) (hi : ∀ k, (refA b cp cc S).own k → B ≤ k) (hr : S.R.ret < 4294967295) {loaded : Int} (hl : U32 loaded) (held : Bool) :
    Calls Tryz.prog 14 #[.pointer (some ⟨b, 0, none⟩), .int .u32 loaded, .bool held] W fun e w => e = .returned (.agg (S.done loaded held).1.vs) ∧ Sep.Post (refA b cp cc S) W (refA b cp cc (S.done loaded held).2) w := by
  have h32 := ho.x32
  have hr0 : 0 ≤ S.R.ret ∧ S.R.ret < 4294967295 := ⟨ho.R.ret.1, hr⟩
  obtain ⟨p0, p1⟩ := ho.pc
  refine vc14 b 0 loaded held ((St.begin hA).al fun k w2 H => ⟨_, rt_ld H h32 0 rfl, split_of (fun q => ?_) (fun q => ?_)⟩)
  · refine H.dr fun w3 H => ⟨_, rpc_ld H, _, rpc_ld H, ?_⟩
    rintro vs rfl
    have e : S.done loaded held = (⟨S.pc, 0, 0, 0, -1, 0, S.pc⟩, S) := by unfold HS.done; exact if_pos q
    rw [e]
    exact H.sts0 1 rfl rfl rfl (rt_one ⟨S.pc, 0, 0, 0, -1, 0, S.pc⟩) fun w4 H => ⟨_, rfl, H.cells 1 rfl, rfl, H.post 0 rfl⟩
  have q' : ¬ S.halted = true := by rw [q]; decide
  refine H.call 0 rfl (rfetch_any (H.nth 0 rfl) ho (hs.st H hi) hi) fun w5 H => ⟨_, _, _, rfl, H.al fun k3 w6 H => H.sts0 2 rfl rfl rfl (ins_one S.ins) fun w7 H => ⟨_, rpc_ld H, by decide, ?_⟩⟩
  have e1 : IntKind.wrap .u32 (Int.tdiv S.pc 4) = S.pc / 4 := by
    rw [Int.tdiv_eq_ediv_of_nonneg p0]
    exact w32 (by omega) (by omega)
  rw [e1]
  rintro z rfl
  rw [w64 (by omega) (by omega)]
  rintro z rfl
  refine ⟨_, _, _, rcd_ld H, H.drN fun w8 H => split_of (fun q2 => ?_) (fun q2 => ?_)⟩
  · have q2 := of_decide_eq_true q2
    have ht : S.there = false := decide_eq_false (by omega)
    have e : S.done loaded held = S.trap 0 1 S.pc := by unfold HS.done; exact (if_neg q').trans (if_pos ht)
    rw [e]
    exact ⟨_, rpc_ld H, r_tail (L := [_]) H rfl (rtrap_any (H.nth 0 rfl) ho h2 q 0 1 ho.pc) fun w9 H => ⟨rfl, H.post 0 rfl⟩⟩
  have q2 := of_decide_eq_false q2
  have ht : S.there = true := decide_eq_true (by omega)
  rw [ht, Bool.true_and]
  refine split_of (fun q3 => ?_) (fun q3 => ?_)
  · have q3 := not_t q3
    have e : S.done loaded held = S.trap S.word 2 S.word := by unfold HS.done; exact ((if_neg q').trans (if_neg (by rw [ht]; decide))).trans (if_pos q3)
    rw [e]
    exact r_tail (L := [_]) H rfl (rtrap_any (H.nth 0 rfl) ho h2 q _ 2 ho.word) fun w9 H => ⟨rfl, H.post 0 rfl⟩
  have hdk := not_f q3
  obtain ⟨h1, h67⟩ : 1 ≤ S.ins.op ∧ S.ins.op ≤ 67 := decF_low hdk
  have hok : S.ins.Ok := decF_ok S.word
  have ha : U32 (S.reg S.ins.rs1) := ho.reg _
  have hb : U32 (S.reg S.ins.rs2) := ho.reg _
  have hdone := done_mid (S := S) (loaded := loaded) (held := held) q' (by rw [ht]; decide) (by rw [hdk]; decide)
  have hwr := writes_of h1 h67
  have p44 := p4_4 h2 ho
  obtain ⟨r1, r2, r3⟩ := row_ix h1 h67
  refine ⟨_, H.ld 2 rfl rfl, hok.2.1, _, rx_ld H h32 _ hok.2.1.1 hok.2.1.2, H.drN fun w13 H => ⟨_, H.ld 2 rfl rfl, hok.2.2, _, rx_ld H h32 _ hok.2.2.1 hok.2.2.2, H.drN fun w14 H => ⟨_, H.ld 2 rfl rfl, H.callq (qclass_q S.ins.op h1 h67 _) fun w15 H => ⟨_, rfl, ?_⟩⟩⟩⟩
  refine ⟨fun x w => x = decide (classP S.ins.op = 0 ∨ classP S.ins.op = 1) ∧ St W (refA b cp cc S).own w [refA b cp cc S, blk k noRt.vs 46, blk k3 S.ins.vs 92], split_of (fun t => ⟨(decide_eq_true (.inl (beq_i t))).symm, H⟩) (fun t => ⟨?_, H⟩), fun _ => ?_⟩
  · have t := bne_i t
    by_cases h : classP S.ins.op = 1
    · rw [decide_eq_true (.inr h)]; exact beq_iff_eq.2 h
    · rw [decide_eq_false (by omega)]; exact beq_eq_false_iff_ne.2 h
  rintro x w16 ⟨rfl, H⟩
  refine split_of (fun t => ?_) (fun t => ?_)
  · have t := of_decide_eq_true t
    have hm := mid_alu (S := S) (loaded := loaded) (held := held) t
    rw [hm] at hdone
    have h57 : ¬ 57 ≤ S.ins.op := fun h => by have := (class7 h1 h67).2 h; omega
    have hw1 : writesP S.ins.op = true := by rw [hwr, decide_eq_false (show ¬ classP S.ins.op = 2 by omega), decide_eq_false (show ¬ classP S.ins.op = 5 by omega), decide_eq_false h57]; rfl
    refine ⟨_, rfl, H.cells 2 rfl, H.call 0 rfl (rcomputed_any (H.nth 0 rfl) ho S.ins h1 h67 t ha hb) fun w17 H => ⟨_, rfl, H.dr fun w18 H => ⟨_, H.ld 2 rfl rfl, _, rpc_ld H, ?_⟩⟩⟩
    rintro z rfl
    have e := fin_rdone ho (R := S.R) (v := alu.execF S.ins.op (operF S.ins.op S.ins.imm S.pc (S.reg S.ins.rs1) (S.reg S.ins.rs2)).1 (operF S.ins.op S.ins.imm S.pc (S.reg S.ins.rs1) (S.reg S.ins.rs2)).2) (wr_u _) p44 (rd := S.ins.rd) (by rw [hw1]; rfl)
    rw [hdone.trans e]
    exact r_tail (L := [_]) H rfl (rdone_any (H.nth 0 rfl) h32 hr0 _ S.ins.rd _ _ hok.1) fun w8 H => ⟨rfl, H.post 0 rfl⟩
  have n0 := of_decide_eq_false t
  refine split_of (fun t2 => ?_) (fun t2 => split_of (fun t3 => ?_) (fun t3 => split_of (fun t7 => ?_) (fun t7 => ?_)))
  · have t2 := beq_i t2
    have hm := mid_branch (S := S) (loaded := loaded) (held := held) n0 t2
    have hw0 : writesP S.ins.op = false := by rw [hwr, decide_eq_true t2]; rfl
    have h4 : S.ins.op ≠ 4 := fun h => by rw [h] at t2; exact absurd t2 (by decide +kernel)
    refine ⟨_, H.ld 2 rfl rfl, H.callq (qtaken_q _ ha hb _) fun w21 H => ⟨_, rfl, split_of (fun t => ?_) (fun t => ?_)⟩⟩
    · rw [if_neg (by rw [not_t t]; decide)] at hm
      rw [hm] at hdone
      have e := fin_rdone ho (R := S.R) (v := 0) (wr_u _) p44 (rd := 0) (by rw [hw0]; rfl)
      rw [hdone.trans e]
      refine ⟨_, rpc_ld H, ?_⟩
      rintro z rfl
      exact r_tail (L := [_]) H rfl (rdone_any (H.nth 0 rfl) h32 hr0 _ 0 0 _ (by decide)) fun w8 H => ⟨rfl, H.post 0 rfl⟩
    · rw [if_pos (not_f t)] at hm
      rw [hm] at hdone
      have e := fin_rjump ho (v := 0) (targF_u S.ins.op S.ins.imm S.pc (S.reg S.ins.rs1)) (rd := 0) (by rw [hw0]; rfl) (.inl rfl)
      have et : targF S.ins.op S.ins.imm S.pc (S.reg S.ins.rs1) = wr (S.pc + wr S.ins.imm) := by unfold targF; exact if_neg h4
      rw [et] at e hdone
      rw [hdone.trans e]
      refine H.dr fun w24 H => ⟨_, rpc_ld H, _, H.ld 2 rfl rfl, ?_⟩
      rintro z rfl z2 rfl
      exact r_tail (L := [_]) H rfl (rjump_any (H.nth 0 rfl) ho h2 q hr _ 0 (by decide) (wr_u _)) fun w8 H => ⟨rfl, H.post 0 rfl⟩
  · have t3 := beq_i t3
    have t2 := bne_i t2
    have hm := mid_jump (S := S) (loaded := loaded) (held := held) n0 t2 t3
    rw [hm] at hdone
    have h57 : ¬ 57 ≤ S.ins.op := fun h => by have := (class7 h1 h67).2 h; omega
    have hw1 : writesP S.ins.op = true := by rw [hwr, decide_eq_false t2, decide_eq_false (show ¬ classP S.ins.op = 5 by omega), decide_eq_false h57]; rfl
    have e := fin_rjump ho (v := S.p4) (targF_u S.ins.op S.ins.imm S.pc (S.reg S.ins.rs1)) (rd := S.ins.rd) (by rw [hw1]; rfl) (.inr rfl)
    rw [hdone.trans e]
    refine ⟨_, rpc_ld H, _, H.ld 2 rfl rfl, ?_⟩
    rintro z rfl z2 rfl
    refine H.drN fun w27 H => H.calln (qrows_n w27) fun kr w28 H => ⟨_, _, _, rfl, ?_⟩
    refine ⟨fun x w => x = targF S.ins.op S.ins.imm S.pc (S.reg S.ins.rs1) ∧ St W (refA b cp cc S).own w [refA b cp cc S, blk k noRt.vs 46, blk k3 S.ins.vs 92], ⟨_, H.ld 2 rfl rfl, ?_⟩, fun _ => ?_⟩
    · rw [r1]
      rintro z rfl
      refine ⟨r2, adr_some ⟨(rowAt S.ins.op).1, ?_, ?_⟩⟩
      · rw [r3, Nat.zero_add]; exact (rowsAt_blk (H.blk 3 rfl) S.ins.op h1 h67).1
      rw [is_jalr h1 h67]
      refine split_of (fun t => ?_) (fun t => ⟨?_, H.pick [0, 1, 2]⟩)
      · refine ⟨_, H.ld 2 rfl rfl, ?_⟩
        rintro z rfl z2 rfl
        refine ⟨by decide, ?_⟩
        rintro z rfl
        refine ⟨by decide, ?_⟩
        rintro z rfl
        refine ⟨?_, H.pick [0, 1, 2]⟩
        unfold targF
        rw [if_pos (of_decide_eq_true t), andn_1 (wr_u _)]
        have hu := wr_u (S.reg S.ins.rs1 + wr S.ins.imm)
        show IntKind.wrap .u32 (Int.fdiv (wr (S.reg S.ins.rs1 + wr S.ins.imm)) (2 ^ min 1 (IntKind.bits .u32)) * 2 ^ min 1 (IntKind.bits .u32)) = _
        rw [show (2 : Int) ^ min 1 (IntKind.bits .u32) = 2 from rfl, Int.fdiv_eq_ediv_of_nonneg _ (by decide)]
        obtain ⟨a, c⟩ := hu
        exact w32 (by omega) (by omega)
      · unfold targF
        rw [if_neg (of_decide_eq_false t)]
        rfl
    rintro x w29 ⟨rfl, H⟩
    exact ⟨_, H.ld 2 rfl rfl, r_tail (L := [_]) H rfl (rjump_any (H.nth 0 rfl) ho h2 q hr _ S.ins.rd hok.1 (targF_u _ _ _ _)) fun w8 H => ⟨rfl, H.post 0 rfl⟩⟩
  · have t7 := beq_i t7
    exact ⟨_, rfl, H.cells 2 rfl, r_tail (L := [_]) H rfl (rsystem_any (H.nth 0 rfl) ho h2 q ht hdk hr t7 loaded held) fun w8 H => ⟨rfl, H.post 0 rfl⟩⟩
  · have hms : alu.sizeF S.ins.op ≠ 0 := by
      refine (class_mem h1 h67).1 ?_
      have := bne_i t2; have := bne_i t3; have := bne_i t7
      have hcl : 0 ≤ classP S.ins.op ∧ classP S.ins.op ≤ 7 := class_rng h1 h67
      omega
    exact ⟨_, rfl, H.cells 2 rfl, r_tail (L := [_]) H rfl (rmemory_any (H.nth 0 rfl) ho h2 q ht hdk hr n0 (bne_i t2) (bne_i t3) (bne_i t7) hms hl held) fun w8 H => ⟨rfl, H.post 0 rfl⟩⟩
/-! ### Interrupt, Ask -/
theorem rinterrupt_any (hA : (refA b cp cc S).at_ W) (ho : S.Ok) (h2 : S.Ok2) : Calls Tryz.prog 11 #[.pointer (some ⟨b, 0, none⟩)] W fun e w => e = .returned (.tuple #[.agg S.intr.1.1.vs, .bool S.intr.1.2]) ∧ Sep.Post (refA b cp cc S) W (refA b cp cc S.intr.2) w := by
  have h32 := ho.x32
  have no : S.irq = false → S.intr = ((noRt, false), S) := fun h => by unfold HS.intr; rw [h]; rfl
  refine vc11 b 0 ((St.begin hA).al fun k w2 H => ⟨_, rt_ld H h32 0 rfl, split_of (fun q => ?_) (fun q => ⟨_, rt_ld H h32 2 rfl, ?_⟩)⟩)
  · rw [no (by unfold HS.irq; rw [q]; rfl)]
    rintro vs rfl
    exact H.sts0 1 rfl rfl rfl (rt_one noRt) fun w3 H => ⟨_, rfl, H.cells 1 rfl, rfl, H.post 0 rfl⟩
  rintro z rfl
  have hu : U32 (and32 (S.R.at 768) 8) := and32_u _ _
  have hv : U32 (S.R.at 772) := ho.R.at _
  refine split_of (fun q2 => ?_) (fun q2 => ⟨_, rt_ld H h32 3 rfl, split_of (fun q3 => ?_) (fun q3 => ?_)⟩)
  · have q2 : and32 (S.R.at 768) 8 = 0 := beq_i q2
    rw [no (by unfold HS.irq RS.inter; rw [q2]; simp)]
    rintro vs rfl
    exact H.sts0 1 rfl rfl rfl (rt_one noRt) fun w3 H => ⟨_, rfl, H.cells 1 rfl, rfl, H.post 0 rfl⟩
  · have q3 := beq_i q3
    rw [no (by unfold HS.irq RS.inter; rw [q3]; simp)]
    rintro vs rfl
    exact H.sts0 1 rfl rfl rfl (rt_one noRt) fun w3 H => ⟨_, rfl, H.cells 1 rfl, rfl, H.post 0 rfl⟩
  · have q2 : and32 (S.R.at 768) 8 ≠ 0 := bne_i q2
    have q3 := bne_i q3
    have e : S.intr = (((S.trap 0 2147483659 0).1, true), (S.trap 0 2147483659 0).2) := by
      unfold HS.intr HS.irq RS.inter
      rw [q, decide_eq_true (show 0 < and32 (S.R.at 768) 8 by have := hu.1; omega), decide_eq_true (show 0 < S.R.at 772 by have := hv.1; omega)]
      rfl
    rw [e]
    exact H.call 0 rfl (rtrap_any (H.nth 0 rfl) ho h2 q 0 2147483659 (u32_lit (by decide) (by decide))) fun w6 H => ⟨_, rfl, H.al fun k5 w7 H => H.sts0 2 rfl rfl rfl (rt_one _) fun w8 H => ⟨_, rfl, H.cells 2 rfl, H.sts0 1 rfl rfl rfl (rt_one _) fun w9 H => ⟨_, rfl, H.cells 1 rfl, rfl, H.post 0 rfl⟩⟩⟩
theorem cut_eq {n v : Int} (hn : n = 1 ∨ n = 2 ∨ n = 4) (hv : U32 v) : cutF n v = if n < 4 then v % (2 ^ (8 * n).toNat) else v := by
  obtain ⟨a, c⟩ := hv
  unfold cutF wr
  rcases hn with rfl | rfl | rfl
  · rw [w32m, if_pos (by decide), show ((32 : Int) - 8 * 1).toNat = 24 from rfl, show ((8 : Int) * 1).toNat = 8 from rfl]; omega
  · rw [w32m, if_pos (by decide), show ((32 : Int) - 8 * 2).toNat = 16 from rfl, show ((8 : Int) * 2).toNat = 16 from rfl]; omega
  · rw [w32m, if_neg (by decide), show ((32 : Int) - 8 * 4).toNat = 0 from rfl]; omega
theorem rask_any (hA : (refA b cp cc S).at_ W) (ho : S.Ok) (hs : Src B W cp S.code) (hi : ∀ k, (refA b cp cc S).own k → B ≤ k) :
    Calls Tryz.prog 9 #[.pointer (some ⟨b, 0, none⟩)] W fun e w => e = .returned (.agg S.ask.vs) ∧ Sep.Post (refA b cp cc S) W (refA b cp cc S) w := by
  have h32 := ho.x32
  have none_ : ∀ {k : Nat} {L : List Asn} {w : World}, St W (refA b cp cc S).own w (refA b cp cc S :: blk k noRq.vs 40 :: L) → S.asks = false → ∀ vs : Array Value, vs = noRq.vs → vs.size = 4 ∧ (∀ j : Nat, j < 4 → (∃ v, w.cell? ⟨k, 0 + j, none⟩ = some v) ∧ w.frozen? ⟨k, 0 + j, none⟩ = false) ∧ (∀ v : Value, v ∈ vs.toList → v.oneCell' = true) ∧
      ∀ w9 : World, w9 = w.setCells k 0 vs.toList → ∃ vs3 : Array Value, vs3.size = 4 ∧ cellsAt w9 ⟨k, 0, none⟩ vs3 ∧ (Ending.returned (.agg vs3) = .returned (.agg S.ask.vs) ∧ Sep.Post (refA b cp cc S) W (refA b cp cc S) w9) := by
    rintro k L w H hn vs rfl
    refine H.sts0 1 rfl rfl rfl (rq_one noRq) fun w3 H => ⟨_, rfl, H.cells 1 rfl, ?_, H.post 0 rfl⟩
    rw [show S.ask = noRq by unfold HS.ask; rw [hn]; rfl]
  refine vc9 b 0 ((St.begin hA).al fun k w2 H => H.call 0 rfl (rfetch_any (H.nth 0 rfl) ho (hs.st H hi) hi) fun w3 H => ⟨_, _, _, rfl, H.al fun k2 w4 H => H.sts0 2 rfl rfl rfl (ins_one S.ins) fun w5 H => split_of (fun q => ?_) (fun q => ⟨_, rt_ld H h32 0 rfl, split_of (fun q2 => ?_) (fun q2 => ?_)⟩)⟩)
  · refine none_ H ?_
    have q := not_t q
    unfold HS.asks
    cases ht : S.there with
    | false => rfl
    | true => rw [ht, Bool.true_and] at q; rw [q]; rfl
  · refine none_ H ?_
    unfold HS.asks
    rw [q2]; simp
  have q := not_f q
  have ht : S.there = true := (Bool.and_eq_true_iff.1 q).1
  have hdk : decOk S.word = true := (Bool.and_eq_true_iff.1 q).2
  obtain ⟨h1, h67⟩ : 1 ≤ S.ins.op ∧ S.ins.op ≤ 67 := decF_low hdk
  have hok : S.ins.Ok := decF_ok S.word
  have hb : U32 (S.reg S.ins.rs2) := ho.reg _
  refine ⟨_, H.ld 2 rfl rfl, H.callq (qsize_q _ _) fun w8 H => ⟨_, rfl, split_of (fun q3 => ?_) (fun q3 => ?_)⟩⟩
  · refine none_ H ?_
    unfold HS.asks
    rw [beq_i q3]; simp
  have hn : alu.sizeF S.ins.op ≠ 0 := bne_i q3
  have hwu : U32 S.addr := whereF_u (ho.reg _)
  refine ⟨_, rfl, H.cells 2 rfl, H.call 0 rfl (rwhere_any (H.nth 0 rfl) h32 S.ins hok h1 h67) fun w10 H => ⟨_, rfl, _, H.ld 2 rfl rfl, H.call 0 rfl (rfault_any (H.nth 0 rfl) ⟨ho.data.1, ho.data.2.1⟩ h1 h67 hn hwu) fun w11 H => ⟨_, rfl, split_of (fun q4 => ?_) (fun q4 => ?_)⟩⟩⟩
  · refine none_ H ?_
    have : reachF S.ins.op S.addr S.data ≠ -1 := bne_t q4
    unfold HS.asks
    rw [decide_eq_false this]; simp
  have q4 : reachF S.ins.op S.addr S.data = -1 := bne_f q4
  have hasks : S.asks = true := by unfold HS.asks; rw [ht, hdk, q2, decide_eq_true hn, decide_eq_true q4]; rfl
  have hs4 := (size_cases S.ins.op).resolve_left hn
  refine ⟨_, H.ld 2 rfl rfl, hok.2.2, _, rx_ld H h32 _ hok.2.2.1 hok.2.2.2, H.drN fun w13 H => ⟨_, H.ld 2 rfl rfl, H.callq (qclass_q S.ins.op h1 h67 _) fun w14 H => ⟨_, rfl, split_of (fun q5 => ?_) (fun q5 => ?_)⟩⟩⟩
  · have e : S.ask = ⟨S.ins.op, S.addr, alu.sizeF S.ins.op, 0⟩ := by unfold HS.ask; rw [if_pos hasks, if_pos (beq_i q5)]
    rw [e]
    generalize alu.sizeF S.ins.op = n at hs4 ⊢
    refine split_of (fun q6 => ?_) (fun q6 => ?_)
    · have q6 := of_decide_eq_true q6
      rw [w64 (by omega) (by omega)]
      rintro z rfl
      refine ⟨by omega, ?_⟩
      have e2 : IntKind.wrap .u32 (1 * 2 ^ min (8 * n).toNat (IntKind.bits .u32)) ≠ 0 := by
        rcases hs4 with rfl | rfl | rfl
        · decide +kernel
        · decide +kernel
        · omega
      rintro z rfl
      refine ⟨e2, ?_⟩
      rintro z rfl
      refine ⟨_, H.ld 2 rfl rfl, ?_⟩
      rw [show Int.tmod 0 (IntKind.wrap .u32 (1 * 2 ^ min (8 * n).toNat (IntKind.bits .u32))) = 0 from Int.zero_tmod _]
      rintro vs rfl
      exact H.sts0 1 rfl rfl rfl (rq_one ⟨S.ins.op, S.addr, n, 0⟩) fun w15 H => ⟨_, rfl, H.cells 1 rfl, rfl, H.post 0 rfl⟩
    · refine ⟨_, H.ld 2 rfl rfl, ?_⟩
      rintro vs rfl
      exact H.sts0 1 rfl rfl rfl (rq_one ⟨S.ins.op, S.addr, n, 0⟩) fun w15 H => ⟨_, rfl, H.cells 1 rfl, rfl, H.post 0 rfl⟩
  · have e : S.ask = ⟨S.ins.op, S.addr, alu.sizeF S.ins.op, cutF (alu.sizeF S.ins.op) (S.reg S.ins.rs2)⟩ := by unfold HS.ask; rw [if_pos hasks, if_neg (bne_i q5)]
    rw [e, cut_eq hs4 hb]
    generalize alu.sizeF S.ins.op = n at hs4 ⊢
    refine split_of (fun q6 => ?_) (fun q6 => ?_)
    · have q6 := of_decide_eq_true q6
      rw [if_pos q6, w64 (by omega) (by omega)]
      rintro z rfl
      refine ⟨by omega, ?_⟩
      have e2 : IntKind.wrap .u32 (1 * 2 ^ min (8 * n).toNat (IntKind.bits .u32)) = 2 ^ (8 * n).toNat ∧ (2 : Int) ^ (8 * n).toNat ≠ 0 := by
        rcases hs4 with rfl | rfl | rfl
        · decide +kernel
        · decide +kernel
        · omega
      rw [e2.1]
      rintro z rfl
      refine ⟨e2.2, ?_⟩
      rw [Int.tmod_eq_emod_of_nonneg hb.1]
      rintro z rfl
      refine ⟨_, H.ld 2 rfl rfl, ?_⟩
      rintro vs rfl
      exact H.sts0 1 rfl rfl rfl (rq_one ⟨S.ins.op, S.addr, n, S.reg S.ins.rs2 % 2 ^ (8 * n).toNat⟩) fun w15 H => ⟨_, rfl, H.cells 1 rfl, rfl, H.post 0 rfl⟩
    · have q6 := of_decide_eq_false q6
      rw [if_neg q6]
      refine ⟨_, H.ld 2 rfl rfl, ?_⟩
      rintro vs rfl
      exact H.sts0 1 rfl rfl rfl (rq_one ⟨S.ins.op, S.addr, n, S.reg S.ins.rs2⟩) fun w15 H => ⟨_, rfl, H.cells 1 rfl, rfl, H.post 0 rfl⟩
end Go.Proofs.YtcpmgklhfpcaeaaGreatDoor
