/- The document's hart: control registers, system, memory, Do. Conditions: the code it reads. -/
import Derived.Test.YtcpmgklhfpcaeaaGreatDoorRefC
namespace Go.Proofs.YtcpmgklhfpcaeaaGreatDoor
open Go.RowKit Go.XHeap Go.Sx Go.Sep
set_option linter.unusedVariables false
set_option maxRecDepth 100000

variable {W w : World} {b cc : Nat} {cp : Option Addr} {S S' : HS} {L : List Asn} {B : Nat} {M : Nat → Prop} {W0 : World}
/-! ### plainly -/
theorem set_zero {x : List Int} (h : x.length = 32) (h0 : x.getD 0 0 = 0) : x.set 0 0 = x := by
  cases x with
  | nil => rfl
  | cons a l =>
    have : a = 0 := h0
    rw [this]; rfl
theorem fin_rdone (ho : S.Ok) {v next : Int} {R : RS} (hn : U32 next) (h4 : next % 4 = 0) {rd : Int} (hrd : rd = if writesP S.ins.op then S.ins.rd else 0) : S.fin v next R = ({ S with R := R } : HS).rdone S.word rd v next := by
  have hok : 0 ≤ S.ins.rd ∧ S.ins.rd < 32 := (decF_ok S.word).1
  unfold HS.fin HS.rdone
  rw [if_neg (by rw [and_3 hn, h4]; decide)]
  by_cases hw : S.wrs = true
  · have hw' := hw
    unfold HS.wrs at hw'
    simp only [Bool.and_eq_true, decide_eq_true_eq] at hw'
    rw [hw'.1, if_pos rfl] at hrd
    rw [hw, if_pos rfl, if_pos rfl, if_pos rfl, hrd, if_neg (by omega)]
  · have hw : S.wrs = false := by simpa using hw
    have h0 : rd = 0 := by
      cases hp : writesP S.ins.op with
      | false => rw [hp] at hrd; exact hrd
      | true =>
        rw [hp, if_pos rfl] at hrd
        unfold HS.wrs at hw
        rw [hp, Bool.true_and] at hw
        have := of_decide_eq_false hw
        omega
    rw [hw, h0]
    show (_, _) = (_, _)
    rw [show ({ S with R := R } : HS).x = S.x from rfl]
    simp only [if_pos]
    rw [show (0 : Int).toNat = 0 from rfl, set_zero ho.x32 ho.x0]
    rfl
theorem fin_rjump (ho : S.Ok) {v next : Int} (hn : U32 next) {rd : Int} (hrd : rd = if writesP S.ins.op then S.ins.rd else 0) (hv : rd = 0 ∨ v = S.p4) : S.fin v next S.R = S.rjump S.word rd next := by
  unfold HS.rjump
  by_cases h : next % 4 = 0
  · rw [if_neg (fun h2 => h2 h), fin_rdone ho hn h hrd]
    rcases hv with h0 | h0
    · unfold HS.rdone; rw [h0, if_pos rfl, if_pos rfl]
    · rw [h0]
  · rw [if_pos h]
    unfold HS.fin
    rw [if_pos (by rw [and_3 hn]; exact h)]
theorem or_comm32 (a c : Int) : or32 a c = or32 c a := by unfold or32; rw [BitVec.or_comm]
theorem writes_of {op : Int} (h1 : 1 ≤ op) (h67 : op ≤ 67) : writesP op = !(decide (classP op = 2) || (decide (classP op = 5) || (decide (57 ≤ op) && decide (op ≤ 61)))) := by
  have h := rng_all tab1 h1 h67
  simp only [Bool.and_eq_true, decide_eq_true_eq] at h
  rw [show ((op.toNat - 1 + 1 : Nat) : Int) = op by omega] at h
  rw [h.2.2, show decide (57 ≤ op.toNat - 1 + 1) = decide (57 ≤ op) by rw [decide_eq_decide]; omega, show decide (op.toNat - 1 + 1 ≤ 61) = decide (op ≤ 61) by rw [decide_eq_decide]; omega]
theorem class7 {op : Int} (h1 : 1 ≤ op) (h67 : op ≤ 67) : classP op = 7 ↔ 57 ≤ op := by
  have h := rng_all tab3 h1 h67
  simp only [Bool.and_eq_true, decide_eq_true_eq] at h
  rw [show ((op.toNat - 1 + 1 : Nat) : Int) = op by omega] at h
  exact h.2.trans (by omega)
theorem class_mem {op : Int} (h1 : 1 ≤ op) (h67 : op ≤ 67) : (classP op = 4 ∨ classP op = 5 ∨ classP op = 6) ↔ alu.sizeF op ≠ 0 := by
  have h := rng_all tab3 h1 h67
  simp only [Bool.and_eq_true, decide_eq_true_eq] at h
  rw [show ((op.toNat - 1 + 1 : Nat) : Int) = op by omega] at h
  exact h.1
theorem st_back {x : Int} (h : isSt x) : or32 (and32 (x / 16) 8) 128 = and32 (or32 (and32 x 128 / 16) 128) 136 := by
  rcases h with rfl | rfl | rfl | rfl <;> decide +kernel
theorem at_none (hR : S.R.Ok) {n : Int} (h : maskOk n = false) : S.R.at n = 0 := by
  unfold RS.at
  cases e : S.R.csr n with
  | none => rfl
  | some v => have := hR.dom n v e; rw [h] at this; cases this
/-! ### control registers -/
theorem rcsr_any (hA : (refA b cp cc S).at_ W) (ho : S.Ok) (n : Int) : Calls Tryz.prog 71 #[.pointer (some ⟨b, 0, none⟩), .int .i64 n] W fun e w => e = .returned (.tuple #[.int .u32 (S.R.get n), .bool (RS.has n)]) ∧ w = W := by
  have H := St.begin hA
  have h32 := ho.x32
  have key : ∀ m : Int, n = m → maskOk m = true → m ≠ 3074 → m ≠ 3860 → Ending.returned (.tuple #[.int .u32 (S.R.at m), .bool true]) = Ending.returned (.tuple #[.int .u32 (S.R.get n), .bool (RS.has n)]) ∧ W = W := by
    rintro m rfl hm h1 h2
    refine ⟨?_, rfl⟩
    unfold RS.get RS.has
    rw [if_neg h1, if_neg h2, hm, Bool.or_true, Bool.or_true]
  refine vc71 b 0 n (split_of (fun q => ⟨_, rt_ld H h32 2 rfl, key 768 (beq_i q) rfl (by decide) (by decide)⟩) fun q => split_of (fun q2 => ⟨_, rt_ld H h32 3 rfl, key 772 (beq_i q2) rfl (by decide) (by decide)⟩) fun q2 => split_of (fun q3 => ⟨_, rt_ld H h32 4 rfl, key 773 (beq_i q3) rfl (by decide) (by decide)⟩) fun q3 =>
    split_of (fun q4 => ⟨_, rt_ld H h32 5 rfl, key 832 (beq_i q4) rfl (by decide) (by decide)⟩) fun q4 => split_of (fun q5 => ⟨_, rt_ld H h32 6 rfl, key 833 (beq_i q5) rfl (by decide) (by decide)⟩) fun q5 => split_of (fun q6 => ⟨_, rt_ld H h32 7 rfl, key 834 (beq_i q6) rfl (by decide) (by decide)⟩) fun q6 => split_of (fun q7 => ⟨_, rt_ld H h32 8 rfl, key 835 (beq_i q7) rfl (by decide) (by decide)⟩) fun q7 => split_of (fun q8 => ⟨_, rt_ld H h32 1 rfl, ?_⟩) fun q8 => split_of (fun q9 => ⟨_, rnb_ld H, ?_⟩) fun q9 => ?_)
  · rintro z rfl
    rw [show IntKind.wrap .u32 S.R.ret = S.R.ret from wr_id ho.R.ret, beq_i q8]
    exact ⟨rfl, rfl⟩
  · rintro z rfl
    rw [show IntKind.wrap .u32 S.R.hart = S.R.hart from wr_id ho.R.hart, beq_i q9]
    exact ⟨rfl, rfl⟩
  · have hm : maskOk n = false := decide_eq_false (by
      have := bne_i q; have := bne_i q2; have := bne_i q3; have := bne_i q4; have := bne_i q5; have := bne_i q6; have := bne_i q7
      rintro (h | h | h | h | h | h | h) <;> omega)
    refine ⟨?_, rfl⟩
    unfold RS.get RS.has
    rw [if_neg (bne_i q8), if_neg (bne_i q9), at_none ho.R hm, hm, decide_eq_false (bne_i q8), decide_eq_false (bne_i q9)]
    rfl
theorem rset_any (hA : (refA b cp cc S).at_ W) (h32 : S.x.length = 32) {n v : Int} (hm : maskOk n = true) (hv : U32 v) : Calls Tryz.prog 89 #[.pointer (some ⟨b, 0, none⟩), .int .i64 n, .int .u32 v] W fun e w => e = .returned (.tuple #[]) ∧ Sep.Post (refA b cp cc S) W (refA b cp cc { S with R := S.R.set n v }) w := by
  have H := St.begin hA
  have e4 : IntKind.wrap .u32 (v - Int.tmod v 4) = and32 v 4294967292 := by
    rw [Int.tmod_eq_emod_of_nonneg hv.1, and_fffc hv]
    obtain ⟨a, c⟩ := hv
    exact w32 (by omega) (by omega)
  refine vc89 b 0 n v (split_of (fun q => ?_) fun q => split_of (fun q2 => ?_) fun q2 => split_of (fun q3 => ?_) fun q3 => split_of (fun q4 => ?_) fun q4 => split_of (fun q5 => ?_) fun q5 => split_of (fun q6 => ?_) fun q6 => split_of (fun q7 => ?_) fun q7 => ?_)
  · have q := beq_i q; subst q
    rintro z rfl
    exact rt_st H h32 2 (by decide) _ { S with R := S.R.set 768 v } rfl rfl rfl rfl rfl (tail_set S 768 v 2 (by omega)) fun w2 H => ⟨rfl, H.post 0 rfl⟩
  · have q2 := beq_i q2; subst q2
    rintro z rfl
    exact rt_st H h32 3 (by decide) _ { S with R := S.R.set 772 v } rfl rfl rfl rfl rfl (tail_set S 772 v 3 (by omega)) fun w2 H => ⟨rfl, H.post 0 rfl⟩
  · have q3 := beq_i q3; subst q3
    refine ⟨by decide, ?_⟩
    rintro z rfl z2 rfl
    rw [e4]
    exact rt_st H h32 4 (by decide) _ { S with R := S.R.set 773 v } rfl rfl rfl rfl rfl (tail_set S 773 v 4 (by omega)) fun w2 H => ⟨rfl, H.post 0 rfl⟩
  · have q4 := beq_i q4; subst q4
    exact rt_st H h32 5 (by decide) _ { S with R := S.R.set 832 v } rfl rfl rfl rfl rfl (by rw [tail_set S 832 v 5 (by omega), show maskF 832 = 4294967295 from rfl, and_ffff hv]) fun w2 H => ⟨rfl, H.post 0 rfl⟩
  · have q5 := beq_i q5; subst q5
    refine ⟨by decide, ?_⟩
    rintro z rfl z2 rfl
    rw [e4]
    exact rt_st H h32 6 (by decide) _ { S with R := S.R.set 833 v } rfl rfl rfl rfl rfl (tail_set S 833 v 6 (by omega)) fun w2 H => ⟨rfl, H.post 0 rfl⟩
  · have q6 := beq_i q6; subst q6
    exact rt_st H h32 7 (by decide) _ { S with R := S.R.set 834 v } rfl rfl rfl rfl rfl (by rw [tail_set S 834 v 7 (by omega), show maskF 834 = 4294967295 from rfl, and_ffff hv]) fun w2 H => ⟨rfl, H.post 0 rfl⟩
  · have q7 := beq_i q7; subst q7
    exact rt_st H h32 8 (by decide) _ { S with R := S.R.set 835 v } rfl rfl rfl rfl rfl (by rw [tail_set S 835 v 8 (by omega), show maskF 835 = 4294967295 from rfl, and_ffff hv]) fun w2 H => ⟨rfl, H.post 0 rfl⟩
  · exfalso
    have hm := of_decide_eq_true hm
    have := bne_i q; have := bne_i q2; have := bne_i q3; have := bne_i q4; have := bne_i q5; have := bne_i q6; have := bne_i q7
    rcases hm with h | h | h | h | h | h | h <;> omega
/-! ### system -/
theorem rsystem_any (hA : (refA b cp cc S).at_ W) (ho : S.Ok) (h2 : S.Ok2) (hh : S.halted = false) (hth : S.there = true) (hdk : decOk S.word = true) (hr : S.R.ret < 4294967295) (hc : classP S.ins.op = 7) (loaded : Int) (held : Bool) :
    Calls Tryz.prog 58 #[.pointer (some ⟨b, 0, none⟩), .agg S.ins.vs, .int .u32 S.word, .int .u32 (S.reg S.ins.rs1)] W fun e w => e = .returned (.agg (S.done loaded held).1.vs) ∧ Sep.Post (refA b cp cc S) W (refA b cp cc (S.done loaded held).2) w := by
  have h32 := ho.x32
  obtain ⟨h1, h67⟩ : 1 ≤ S.ins.op ∧ S.ins.op ≤ 67 := decF_low hdk
  have h57 : 57 ≤ S.ins.op := (class7 h1 h67).1 hc
  have hok : S.ins.Ok := decF_ok S.word
  have ha : U32 (S.reg S.ins.rs1) := ho.reg _
  obtain ⟨r1, r2, r3⟩ := row_ix h1 h67
  have hdone := done_mid (S := S) (loaded := loaded) (held := held) (by rw [hh]; decide) (by rw [hth]; decide) (by rw [hdk]; decide)
  have hm := mid_sys (S := S) (loaded := loaded) (held := held) hc
  have hr0 : 0 ≤ S.R.ret ∧ S.R.ret < 4294967295 := ⟨ho.R.ret.1, hr⟩
  have hwr := writes_of h1 h67
  rw [hc, show decide ((7 : Int) = 2) = false from rfl, show decide ((7 : Int) = 5) = false from rfl, Bool.false_or, Bool.false_or] at hwr
  have p44 := p4_4 h2 ho
  refine vc58 b 0 S.ins.vs S.word (S.reg S.ins.rs1) ((St.begin hA).al fun k w2 H => H.al fun k2 w3 H => (qrows_q w3).mono ?_)
  rintro e w4 ⟨kr, rfl, hk, hq⟩
  have H := H.quiet hq
  have H := H.pick [0, 2, 1]
  obtain ⟨c0, c1, c2, c3, c4⟩ := hk S.ins.op h1 h67
  refine ⟨_, _, _, rfl, _, H.ld 2 rfl rfl, ?_⟩
  rw [r1]
  rintro z rfl
  refine ⟨r2, adr_some ⟨#[.string (rowAt S.ins.op).1, .int .u8 (rF S.ins.op), .int .i64 (rC S.ins.op), .int .i64 (rA S.ins.op), .int .i64 (rG S.ins.op)], rfl, ?_, H.al fun k7 w5 H => H.sts0 3 rfl rfl rfl ?_ fun w6 H => ?_⟩⟩
  · rw [r3, Nat.zero_add]
    intro j v hj
    rw [add_none]
    match j, hj with
    | 0, hj => cases hj; exact c0
    | 1, hj => cases hj; exact c1
    | 2, hj => cases hj; exact c2
    | 3, hj => cases hj; exact c3
    | 4, hj => cases hj; exact c4
  · intro v hv
    simp only [List.mem_cons, List.not_mem_nil, or_false] at hv
    rcases hv with rfl | rfl | rfl | rfl | rfl <;> rfl
  have I0 : ∀ w, St W (refA b cp cc S).own w [refA b cp cc S, blk k2 noRt.vs 46, blk k S.ins.vs 92, blk k7 #[.string (rowAt S.ins.op).1, .int .u8 (rF S.ins.op), .int .i64 (rC S.ins.op), .int .i64 (rA S.ins.op), .int .i64 (rG S.ins.op)] 116] → True := fun _ _ => trivial
  refine ⟨fun w => 62 ≤ S.ins.op ∧ St W (refA b cp cc S).own w [refA b cp cc S, blk k2 noRt.vs 46, blk k S.ins.vs 92, blk k7 #[.string (rowAt S.ins.op).1, .int .u8 (rF S.ins.op), .int .i64 (rC S.ins.op), .int .i64 (rA S.ins.op), .int .i64 (rG S.ins.op)] 116], ?_, fun _ => ?_⟩
  · refine ⟨_, H.ld 3 rfl rfl, ?_⟩
    rw [is_ecall h1 h67, is_ebreak h1 h67, is_mret h1 h67, is_fence h1 h67, is_wfi h1 h67]
    refine split_of (fun t => ?_) (fun t => split_of (fun t2 => ?_) (fun t2 => split_of (fun t3 => ?_) (fun t3 => split_of (fun t4 => ?_) (fun t4 => split_of (fun t5 => ?_) (fun t5 => ?_)))))
    · rw [if_pos (of_decide_eq_true t)] at hm
      rw [hm] at hdone
      rw [hdone]
      exact r_tail (L := [_, _]) H rfl (rtrap_any (H.nth 0 rfl) ho h2 hh _ 11 (u32_lit (by decide) (by decide))) fun w8 H => ⟨rfl, H.post 0 rfl⟩
    · rw [if_neg (of_decide_eq_false t), if_pos (of_decide_eq_true t2)] at hm
      rw [hm] at hdone
      rw [hdone]
      exact ⟨_, rpc_ld H, r_tail (L := [_, _]) H rfl (rtrap_any (H.nth 0 rfl) ho h2 hh _ 3 ho.pc) fun w8 H => ⟨rfl, H.post 0 rfl⟩⟩
    · have t3' := of_decide_eq_true t3
      rw [if_neg (of_decide_eq_false t), if_neg (of_decide_eq_false t2), if_pos t3'] at hm
      rw [hm] at hdone
      have hb4 := h2.R.back.e4
      have hbu := ho.R.back.at 833
      have hw0 : writesP S.ins.op = false := by rw [hwr, t3']; rfl
      have e := fin_rdone ho (v := 0) (R := S.R.back) hbu hb4 (rd := 0) (by rw [hw0]; rfl)
      have hd2 : S.done loaded held = ({ S with R := S.R.back } : HS).rdone S.word 0 0 (S.R.back.at 833) := hdone.trans e
      rw [hd2]
      refine ⟨_, rt_ld H h32 2 rfl, by decide, ?_⟩
      rintro z rfl
      rintro z rfl
      rintro z rfl
      have e5 : IntKind.wrap .u32 ((BitVec.ofInt (IntKind.bits .u32) (IntKind.wrap .u32 ((BitVec.ofInt (IntKind.bits .u32) (Int.fdiv (S.R.at 768) (2 ^ min 4 (IntKind.bits .u32))) &&& BitVec.ofInt (IntKind.bits .u32) 8).toNat : Int)) ||| BitVec.ofInt (IntKind.bits .u32) 128).toNat : Int) = and32 (or32 (and32 (S.R.at 768) 128 / 16) 128) (maskF 768) := by
        rw [show Int.fdiv (S.R.at 768) (2 ^ min 4 (IntKind.bits .u32)) = S.R.at 768 / 16 by rw [show (2 : Int) ^ min 4 (IntKind.bits .u32) = 16 from rfl, Int.fdiv_eq_ediv_of_nonneg _ (by decide)]]
        exact st_back h2.st
      rw [e5]
      refine rt_st H h32 2 (by decide) _ { S with R := S.R.back } rfl rfl rfl rfl rfl (tail_set S 768 _ 2 (by omega)) fun w11 H => ⟨_, rt_ld H h32 6 rfl, ?_⟩
      exact r_tail (L := [_, _]) H rfl (rdone_any (H.nth 0 rfl) h32 hr0 _ 0 0 _ (by decide)) fun w8 H => ⟨rfl, H.post 0 rfl⟩
    · have t4' := of_decide_eq_true t4
      rw [if_neg (of_decide_eq_false t), if_neg (of_decide_eq_false t2), if_neg (of_decide_eq_false t3), if_pos (.inl t4')] at hm
      rw [hm] at hdone
      have hw0 : writesP S.ins.op = false := by rw [hwr, t4']; rfl
      have e := fin_rdone ho (v := 0) (R := S.R) (wr_u _) p44 (rd := 0) (by rw [hw0]; rfl)
      have hd2 : S.done loaded held = S.rdone S.word 0 0 S.p4 := hdone.trans e
      rw [hd2]
      refine ⟨_, rpc_ld H, ?_⟩
      rintro z rfl
      exact r_tail (L := [_, _]) H rfl (rdone_any (H.nth 0 rfl) h32 hr0 _ 0 0 _ (by decide)) fun w8 H => ⟨rfl, H.post 0 rfl⟩
    · have t5' := of_decide_eq_true t5
      rw [if_neg (of_decide_eq_false t), if_neg (of_decide_eq_false t2), if_neg (of_decide_eq_false t3), if_pos (.inr t5')] at hm
      rw [hm] at hdone
      have hw0 : writesP S.ins.op = false := by rw [hwr, t5']; rfl
      have e := fin_rdone ho (v := 0) (R := S.R) (wr_u _) p44 (rd := 0) (by rw [hw0]; rfl)
      have hd2 : S.done loaded held = S.rdone S.word 0 0 S.p4 := hdone.trans e
      rw [hd2]
      refine ⟨_, rpc_ld H, ?_⟩
      rintro z rfl
      exact r_tail (L := [_, _]) H rfl (rdone_any (H.nth 0 rfl) h32 hr0 _ 0 0 _ (by decide)) fun w8 H => ⟨rfl, H.post 0 rfl⟩
    · have := of_decide_eq_false t; have := of_decide_eq_false t2; have := of_decide_eq_false t3; have := of_decide_eq_false t4; have := of_decide_eq_false t5
      exact ⟨by omega, H⟩
  rintro w18 ⟨h62, H⟩
  have ht := rng_all tab4 h1 h67
  rw [show ((S.ins.op.toNat - 1 + 1 : Nat) : Int) = S.ins.op by omega, decide_eq_false (show ¬ S.ins.op.toNat - 1 + 1 < 62 by omega), Bool.false_or] at ht
  simp only [Bool.and_eq_true, decide_eq_true_eq] at ht
  obtain ⟨f68, f1, f2, f3, f0⟩ := ht
  rw [if_neg (by omega), if_neg (by omega), if_neg (by omega), if_neg (by omega)] at hm
  have hw1 : writesP S.ins.op = true := by rw [hwr, decide_eq_false (show ¬ S.ins.op ≤ 61 by omega), Bool.and_false]; rfl
  refine ⟨fun x w => x = (if 65 ≤ S.ins.op then wr S.ins.rs1 else S.reg S.ins.rs1) ∧ St W (refA b cp cc S).own w [refA b cp cc S, blk k2 noRt.vs 46, blk k S.ins.vs 92, blk k7 #[.string (rowAt S.ins.op).1, .int .u8 (rF S.ins.op), .int .i64 (rC S.ins.op), .int .i64 (rA S.ins.op), .int .i64 (rG S.ins.op)] 116], ⟨_, H.ld 3 rfl rfl, split_of (fun q => ⟨_, H.ld 2 rfl rfl, ?_⟩) (fun q => ?_)⟩, fun _ => ?_⟩
  · rintro z rfl
    have := f68.1 (beq_i q)
    exact ⟨(if_pos (by omega)).symm, H⟩
  · have q := bne_i q
    exact ⟨(if_neg (fun h => q (f68.2 (by omega)))).symm, H⟩
  rintro x w19 ⟨hx, H⟩
  refine ⟨_, H.ld 2 rfl rfl, H.callp (rcsr_any (H.nth 0 rfl) ho _) ⟨_, _, rfl, ?_⟩⟩
  refine ⟨fun y w => y = decide ((S.ins.op = 62 ∨ S.ins.op = 65) ∨ S.ins.rs1 ≠ 0) ∧ St W (refA b cp cc S).own w [refA b cp cc S, blk k2 noRt.vs 46, blk k S.ins.vs 92, blk k7 #[.string (rowAt S.ins.op).1, .int .u8 (rF S.ins.op), .int .i64 (rC S.ins.op), .int .i64 (rA S.ins.op), .int .i64 (rG S.ins.op)] 116], ⟨_, H.ld 3 rfl rfl, by decide, ?_⟩, fun _ => ?_⟩
  · rw [Int.tmod_eq_emod_of_nonneg f0.1]
    rintro z rfl
    refine split_of (fun q => ⟨(decide_eq_true (.inl (by have := f1.1 (beq_i q); omega))).symm, H⟩) (fun q => ⟨_, H.ld 2 rfl rfl, ?_, H⟩)
    have q := bne_i q
    have hn : ¬ (S.ins.op = 62 ∨ S.ins.op = 65) := fun h => q (f1.2 (by omega))
    by_cases h : S.ins.rs1 = 0
    · rw [decide_eq_false (by rintro (h5 | h5); exact hn h5; exact h5 h), h]; rfl
    · rw [decide_eq_true (.inr h)]; exact bne_iff_ne.2 h
  rintro y w21 ⟨rfl, H⟩
  have acc0 : ∀ r, S.R.access S.ins.op S.ins.rs1 S.ins.imm (S.reg S.ins.rs1) = r → S.mid loaded held = if r.2.1 then .go r.1 S.p4 r.2.2 else .trap 2 S.word := by rintro r rfl; exact hm
  have trapped : (S.R.access S.ins.op S.ins.rs1 S.ins.imm (S.reg S.ins.rs1)).2.1 = false → Calls Tryz.prog 43 #[.pointer (some ⟨b, 0, none⟩), .int .u32 S.word, .int .i64 2, .int .u32 S.word] w21 fun e w' => ∃ vs : Array Value, e = .returned (.agg vs) ∧ vs.size = 7 ∧ (∀ j : Nat, j < 7 → (∃ v, w'.cell? ⟨k2, 0 + j, none⟩ = some v) ∧ w'.frozen? ⟨k2, 0 + j, none⟩ = false) ∧ (∀ v : Value, v ∈ vs.toList → v.oneCell' = true) ∧
      ∀ w8 : World, w8 = w'.setCells k2 0 vs.toList → ∃ vs4 : Array Value, vs4.size = 7 ∧ cellsAt w8 ⟨k2, 0, none⟩ vs4 ∧ (Ending.returned (.agg vs4) = .returned (.agg (S.done loaded held).1.vs) ∧ Sep.Post (refA b cp cc S) W (refA b cp cc (S.done loaded held).2) w8) := by
    intro hf
    have h := acc0 _ rfl
    rw [hf, if_neg (by decide)] at h
    rw [h] at hdone
    rw [hdone]
    exact r_tail (L := [_, _]) H rfl (rtrap_any (H.nth 0 rfl) ho h2 hh _ 2 ho.word) fun w8 H => ⟨rfl, H.post 0 rfl⟩
  have went : ∀ (R' : RS), R'.ret = S.R.ret → (S.R.access S.ins.op S.ins.rs1 S.ins.imm (S.reg S.ins.rs1)) = (S.R.get S.ins.imm, true, R') → ∀ w28, St W (refA b cp cc S).own w28 [refA b cp cc { S with R := R' }, blk k2 noRt.vs 46, blk k S.ins.vs 92, blk k7 #[.string (rowAt S.ins.op).1, .int .u8 (rF S.ins.op), .int .i64 (rC S.ins.op), .int .i64 (rA S.ins.op), .int .i64 (rG S.ins.op)] 116] →
      ∀ w29 : World, w29 = w28.drew → ∃ z28 : Int, w29.cell? ⟨k, 0 + 1, none⟩ = some (.int .i64 z28) ∧ ∃ z29 : Int, w29.cell? ⟨b, 0 + 3, none⟩ = some (.int .u32 z29) ∧ ∀ z30 : Int, z30 = IntKind.wrap .u32 (z29 + 4) → Calls Tryz.prog 54 #[.pointer (some ⟨b, 0, none⟩), .int .u32 S.word, .int .i64 z28, .int .u32 (S.R.get S.ins.imm), .int .u32 z30] w29 fun e w' => ∃ vs : Array Value, e = .returned (.agg vs) ∧ vs.size = 7 ∧ (∀ j : Nat, j < 7 → (∃ v, w'.cell? ⟨k2, 0 + j, none⟩ = some v) ∧ w'.frozen? ⟨k2, 0 + j, none⟩ = false) ∧ (∀ v : Value, v ∈ vs.toList → v.oneCell' = true) ∧
        ∀ w8 : World, w8 = w'.setCells k2 0 vs.toList → ∃ vs4 : Array Value, vs4.size = 7 ∧ cellsAt w8 ⟨k2, 0, none⟩ vs4 ∧ (Ending.returned (.agg vs4) = .returned (.agg (S.done loaded held).1.vs) ∧ Sep.Post (refA b cp cc S) W (refA b cp cc (S.done loaded held).2) w8) := by
    intro R' hret hacc w28 H
    have h := acc0 _ hacc
    rw [if_pos rfl] at h
    rw [h] at hdone
    have e := fin_rdone ho (v := S.R.get S.ins.imm) (R := R') (wr_u _) p44 (rd := S.ins.rd) (by rw [hw1]; rfl)
    have hd2 : S.done loaded held = ({ S with R := R' } : HS).rdone S.word S.ins.rd (S.R.get S.ins.imm) S.p4 := hdone.trans e
    rw [hd2]
    refine H.dr fun w29 H => ⟨_, H.ld 2 rfl rfl, _, rpc_ld H, ?_⟩
    rintro z rfl
    exact r_tail (L := [_, _]) H rfl (rdone_any (H.nth 0 rfl) h32 (by show 0 ≤ R'.ret ∧ R'.ret < _; rw [hret]; exact hr0) _ S.ins.rd _ _ hok.1) fun w8 H => ⟨rfl, H.post 0 rfl⟩
  refine split_of (fun q => trapped ?_) (fun q => split_of (fun q2 => ?_) (fun q2 => ?_))
  · have q := not_t q
    unfold RS.access
    split
    · exact q
    · rw [if_pos (.inl q)]
  · have q := not_f q
    have q2 := of_decide_eq_true q2
    have hno : ¬ (¬ (S.ins.op = 62 ∨ S.ins.op = 65) ∧ S.ins.rs1 = 0) := by rintro ⟨h5, h6⟩; rcases q2 with h | h; exact h5 h; exact h h6
    refine ⟨_, H.ld 2 rfl rfl, by decide, ?_⟩
    have e1 : Int.fdiv S.ins.imm (2 ^ min 10 (IntKind.bits .i64)) = S.ins.imm / 1024 := by
      rw [show (2 : Int) ^ min 10 (IntKind.bits .i64) = 1024 from rfl, Int.fdiv_eq_ediv_of_nonneg _ (by decide)]
    rw [e1]
    rintro z rfl
    refine split_of (fun q3 => trapped ?_) (fun q3 => ?_)
    · unfold RS.access
      rw [if_neg hno, if_pos (.inr (beq_i q3))]
    · have q3 := bne_i q3
      have hacc : S.R.access S.ins.op S.ins.rs1 S.ins.imm (S.reg S.ins.rs1) = (S.R.get S.ins.imm, true, S.R.set S.ins.imm (S.R.newv S.ins.op S.ins.imm x)) := by
        unfold RS.access
        rw [hx]
        exact (if_neg hno).trans (if_neg (by rintro (h | h); rw [q] at h; cases h; exact q3 h))
      have hxu : U32 x := by
        rw [hx]
        split
        · exact wr_u _
        · exact ha
      have hnv : U32 (S.R.newv S.ins.op S.ins.imm x) := RS.newv_u ho.R hxu
      refine ⟨fun w => St W (refA b cp cc S).own w [refA b cp cc { S with R := S.R.set S.ins.imm (S.R.newv S.ins.op S.ins.imm x) }, blk k2 noRt.vs 46, blk k S.ins.vs 92, blk k7 #[.string (rowAt S.ins.op).1, .int .u8 (rF S.ins.op), .int .i64 (rC S.ins.op), .int .i64 (rA S.ins.op), .int .i64 (rG S.ins.op)] 116], split_of (fun _ => ?_) (fun h => absurd h (by rw [decide_eq_true q2]; decide)), fun _ => ?_⟩
      · refine ⟨fun u w => u = S.R.newv S.ins.op S.ins.imm x ∧ St W (refA b cp cc S).own w [refA b cp cc S, blk k2 noRt.vs 46, blk k S.ins.vs 92, blk k7 #[.string (rowAt S.ins.op).1, .int .u8 (rF S.ins.op), .int .i64 (rC S.ins.op), .int .i64 (rA S.ins.op), .int .i64 (rG S.ins.op)] 116], ⟨_, H.ld 3 rfl rfl, by decide, ?_⟩, fun _ => ?_⟩
        · rw [Int.tmod_eq_emod_of_nonneg f0.1]
          rintro z rfl
          refine split_of (fun t => ?_) (fun t => split_of (fun t2 => ?_) (fun t2 => ?_))
          · rintro z rfl
            refine ⟨?_, H⟩
            have := f2.1 (beq_i t)
            unfold RS.newv
            rw [if_pos (by omega), or_comm32]
            rfl
          · rintro z rfl
            refine ⟨?_, H⟩
            have := f3.1 (beq_i t2)
            unfold RS.newv
            rw [if_neg (by omega), if_pos (by omega)]
            rfl
          · refine ⟨?_, H⟩
            have t := bne_i t; have t2 := bne_i t2
            unfold RS.newv
            rw [if_neg (fun h => t (f2.2 (by omega))), if_neg (fun h => t2 (f3.2 (by omega)))]
        rintro u w26 ⟨rfl, H⟩
        exact ⟨_, H.ld 2 rfl rfl, H.call 0 rfl (rset_any (H.nth 0 rfl) h32 (RS.has_mask q q3) hnv) fun w27 H => ⟨rfl, H⟩⟩
      · intro w28 H
        exact went (S.R.set S.ins.imm (S.R.newv S.ins.op S.ins.imm x)) rfl hacc w28 H
  · have q := not_f q
    have q2 := of_decide_eq_false q2
    have hacc : S.R.access S.ins.op S.ins.rs1 S.ins.imm (S.reg S.ins.rs1) = (S.R.get S.ins.imm, true, S.R) := by
      unfold RS.access
      rw [if_pos ⟨fun h => q2 (.inl h), Classical.not_not.1 (fun h => q2 (.inr h))⟩, q]
    refine ⟨fun w => St W (refA b cp cc S).own w [refA b cp cc S, blk k2 noRt.vs 46, blk k S.ins.vs 92, blk k7 #[.string (rowAt S.ins.op).1, .int .u8 (rF S.ins.op), .int .i64 (rC S.ins.op), .int .i64 (rA S.ins.op), .int .i64 (rG S.ins.op)] 116], split_of (fun h => absurd h (by rw [decide_eq_false q2]; decide)) (fun _ => H), fun _ => ?_⟩
    intro w34 H
    exact went S.R rfl hacc w34 H
end Go.Proofs.YtcpmgklhfpcaeaaGreatDoor
