/- The document's hart: fetch, fault, computed, control registers, memory. Conditions: the code it reads. -/
import Derived.Test.YtcpmgklhfpcaeaaGreatDoorRefB
namespace Go.Proofs.YtcpmgklhfpcaeaaGreatDoor
open Go.RowKit Go.XHeap Go.Sx Go.Sep
set_option linter.unusedVariables false
set_option maxRecDepth 100000

variable {W w : World} {b cc : Nat} {cp : Option Addr} {S S' : HS} {L : List Asn} {B : Nat} {M : Nat → Prop} {W0 : World}
theorem adr_eq {p : Option Addr} {g o : Nat} {f : Nat → Nat → Prop} (e : p = some ⟨g, o, none⟩) (h : f g o) : Sx.adr p f := by subst e; exact h
/-- a row's cell, by the operation's index in a slice of rows -/
theorem row_ix {op : Int} (h1 : 1 ≤ op) (h2 : op ≤ 67) : IntKind.wrap .i64 (op - 1) = op - 1 ∧ (0 ≤ op - 1 ∧ op - 1 < ((67 : Nat) : Int)) ∧ (op - 1).toNat = op.toNat - 1 := ⟨w64 (by omega) (by omega), ⟨by omega, by omega⟩, by omega⟩
theorem rfault_any (hA : (refA b cp cc S).at_ W) (hd : 0 ≤ S.data ∧ S.data ≤ 4096) {op addr : Int} (h1 : 1 ≤ op) (h67 : op ≤ 67) (hn : alu.sizeF op ≠ 0) (ha : U32 addr) :
    Calls Tryz.prog 39 #[.pointer (some ⟨b, 0, none⟩), .int .i64 op, .int .u32 addr] W fun e w => e = .returned (.int .i64 (reachF op addr S.data)) ∧ Sep.Post (refA b cp cc S) W (refA b cp cc S) w := by
  have hs : alu.sizeF op = 1 ∨ alu.sizeF op = 2 ∨ alu.sizeF op = 4 := (size_cases op).resolve_left hn
  have hre := reach_eq (op := op) (addr := addr) (data := S.data) hs ha hd
  obtain ⟨a0, a1⟩ := ha
  have hw : IntKind.wrap .i64 addr = addr := w64 (by omega) (by omega)
  obtain ⟨r1, r2, r3⟩ := row_ix h1 h67
  have H := St.begin hA
  refine vc39 b 0 op addr (H.callq (qsize_q op _) fun w2 H => ⟨_, rfl, H.callq (qclass_q op h1 h67 _) fun w3 H => ⟨_, rfl, (qrows_q w3).mono ?_⟩⟩)
  rintro e w4 ⟨k, rfl, hk, hh⟩
  have H := H.quiet hh
  generalize hng : alu.sizeF op = n at hre hs hn ⊢
  refine ⟨_, _, _, rfl, fun x w => x = isLd op ∧ St W (refA b cp cc S).own w [refA b cp cc S], split_of (fun q => ⟨?_, H⟩) (fun q => ?_), fun _ => ?_⟩
  · unfold isLd; rw [decide_eq_true (beq_i q)]; rfl
  · rw [r1]
    rintro z rfl
    refine ⟨r2, adr_some ⟨(rowAt op).1, ?_, ?_, H⟩⟩
    · rw [r3, Nat.zero_add]; exact (hk op h1 h67).1
    · rw [is_lrw h1 h67]
      unfold isLd; rw [decide_eq_false (bne_i q), Bool.false_or]
  rintro x w5 ⟨rfl, H⟩
  refine ⟨fun x w => x = inF n addr S.data ∧ St W (refA b cp cc S).own w [refA b cp cc S], ?_, fun _ => ?_⟩
  · rw [hw]
    rintro z rfl
    refine split_of (fun q => ?_) (fun q => ?_)
    · have q := of_decide_eq_true q
      rintro z rfl
      rw [w64 (by omega) (by omega)]
      rintro z rfl
      refine ⟨_, rdt_ld H, ?_⟩
      rw [w64 (by omega) (by omega)]
      rintro z rfl
      refine ⟨?_, H⟩
      unfold inF
      rw [decide_eq_decide]
      omega
    · have q := of_decide_eq_false q
      exact ⟨(decide_eq_false (by omega)).symm, H⟩
  rintro x w6 ⟨rfl, H⟩
  refine ⟨fun x w => x = devF op n addr ∧ St W (refA b cp cc S).own w [refA b cp cc S], ?_, fun _ => ?_⟩
  · rw [hw]
    refine split_of (fun q => ?_) (fun q => ⟨(decide_eq_false (fun h => bne_i q h.1)).symm, H⟩)
    rintro z rfl
    refine split_of (fun q2 => ?_) (fun q2 => ?_)
    · have q2 := of_decide_eq_true q2
      rintro z rfl
      rw [w64 (by omega) (by omega)]
      rintro z rfl
      refine ⟨?_, H⟩
      have q := beq_i q
      unfold devF
      rw [decide_eq_decide]
      omega
    · have q2 := of_decide_eq_false q2
      exact ⟨(decide_eq_false (by omega)).symm, H⟩
  rintro x w7 ⟨rfl, H⟩
  have tm : Int.tmod addr n = addr % n := Int.tmod_eq_emod_of_nonneg a0
  have fin : ∀ r : Int, r = reachF op addr S.data → Ending.returned (.int .i64 r) = .returned (.int .i64 (reachF op addr S.data)) ∧ Sep.Post (refA b cp cc S) W (refA b cp cc S) w7 := fun r h => ⟨by rw [h], H.post 0 rfl⟩
  rw [hw]
  intro z hz
  obtain rfl : addr = z := hz.symm
  refine ⟨hn, ?_⟩
  rw [tm]
  rintro z rfl
  cases hi : inF n addr S.data with
  | true =>
    rw [hi, Bool.true_or, if_pos rfl] at hre
    refine split_of (fun q => ?_) (fun q => ?_)
    · have q := bne_t q
      rw [if_pos q] at hre
      refine split_of (fun q2 => fin 4 ?_) (fun q2 => ?_)
      · rw [hre, if_pos q2]
      · intro z hz
        obtain rfl : addr = z := hz.symm
        refine ⟨hn, ?_⟩
        rw [tm]
        rintro z rfl
        refine split_of (fun q3 => fin 6 ?_) (fun q3 => absurd (bne_f q3) q)
        rw [hre, if_neg (by rw [q2]; decide)]
    · have q := bne_f q
      rw [if_neg (fun h => h q)] at hre
      intro z hz
      obtain rfl : addr = z := hz.symm
      refine ⟨hn, ?_⟩
      rw [tm]
      rintro z rfl
      refine split_of (fun q3 => absurd q (bne_t q3)) (fun q3 => split_of (fun h => by cases h) fun _ => split_of (fun h => by cases h) fun _ => fin (-1) hre.symm)
  | false =>
    rw [hi, Bool.false_or] at hre
    have tail : addr % n = 0 → Sx.split (!devF op n addr) (Sx.split (isLd op) (Ending.returned (.int .i64 5) = .returned (.int .i64 (reachF op addr S.data)) ∧ Sep.Post (refA b cp cc S) W (refA b cp cc S) w7) (Sx.split (!false) (Sx.split (!devF op n addr) (Ending.returned (.int .i64 7) = .returned (.int .i64 (reachF op addr S.data)) ∧ Sep.Post (refA b cp cc S) W (refA b cp cc S) w7) (Ending.returned (.int .i64 (-1)) = .returned (.int .i64 (reachF op addr S.data)) ∧ Sep.Post (refA b cp cc S) W (refA b cp cc S) w7)) (Ending.returned (.int .i64 (-1)) = .returned (.int .i64 (reachF op addr S.data)) ∧ Sep.Post (refA b cp cc S) W (refA b cp cc S) w7)))
        (Sx.split (!false) (Sx.split (!devF op n addr) (Ending.returned (.int .i64 7) = .returned (.int .i64 (reachF op addr S.data)) ∧ Sep.Post (refA b cp cc S) W (refA b cp cc S) w7) (Ending.returned (.int .i64 (-1)) = .returned (.int .i64 (reachF op addr S.data)) ∧ Sep.Post (refA b cp cc S) W (refA b cp cc S) w7)) (Ending.returned (.int .i64 (-1)) = .returned (.int .i64 (reachF op addr S.data)) ∧ Sep.Post (refA b cp cc S) W (refA b cp cc S) w7)) := by
      intro h0
      rw [if_neg (fun h => h h0)] at hre
      refine split_of (fun d => ?_) (fun d => ?_)
      · rw [if_neg (by rw [not_t d]; decide)] at hre
        refine split_of (fun l => fin 5 ?_) (fun l => split_of (fun _ => split_of (fun _ => fin 7 ?_) (fun d2 => absurd d2 (by rw [d]; decide))) (fun h => by cases h))
        · rw [hre, if_pos l]
        · rw [hre, if_neg (by rw [l]; decide)]
      · rw [if_pos (not_f d)] at hre
        exact split_of (fun _ => split_of (fun d2 => absurd d2 (by rw [d]; decide)) (fun _ => fin (-1) hre.symm)) (fun h => by cases h)
    refine split_of (fun q => ?_) (fun q => ?_)
    · have q := bne_t q
      rw [if_pos q] at hre
      refine split_of (fun q2 => fin 4 ?_) (fun q2 => ?_)
      · rw [hre, if_pos q2]
      · intro z hz
        obtain rfl : addr = z := hz.symm
        refine ⟨hn, ?_⟩
        rw [tm]
        rintro z rfl
        refine split_of (fun q3 => fin 6 ?_) (fun q3 => absurd (bne_f q3) q)
        rw [hre, if_neg (by rw [q2]; decide)]
    · have q := bne_f q
      intro z hz
      obtain rfl : addr = z := hz.symm
      refine ⟨hn, ?_⟩
      rw [tm]
      rintro z rfl
      exact split_of (fun q3 => absurd q (bne_t q3)) (fun _ => split_of (fun _ => tail q) (fun h => by cases h))
/-! ### fetch -/
theorem dec_zero : decF 0 = ⟨0, 0, 0, 0, 0⟩ ∧ decOk 0 = false := ⟨by kernel_rfl, by kernel_rfl⟩
theorem rfetch_any (hA : (refA b cp cc S).at_ W) (ho : S.Ok) (hs : Src B W cp S.code) (hi : ∀ k, (refA b cp cc S).own k → B ≤ k) :
    Calls Tryz.prog 36 #[.pointer (some ⟨b, 0, none⟩)] W fun e w => e = .returned (.tuple #[.agg S.ins.vs, .int .u32 S.word, .bool (S.there && decOk S.word)]) ∧ Sep.Post (refA b cp cc S) W (refA b cp cc S) w := by
  obtain ⟨p0, p1⟩ := ho.pc
  refine vc36 b 0 ((St.begin hA).al fun k w2 H => ⟨_, rpc_ld H, by decide, ?_⟩)
  rintro z rfl
  have e1 : IntKind.wrap .u32 (Int.tdiv S.pc 4) = S.pc / 4 := by
    rw [Int.tdiv_eq_ediv_of_nonneg p0]
    exact w32 (by omega) (by omega)
  rw [e1]
  rintro z rfl
  rw [w64 (by omega) (by omega)]
  refine ⟨_, _, _, rcd_ld H, split_of (fun q => ?_) (fun q => ?_)⟩
  · have q := of_decide_eq_true q
    have hw : S.word = 0 := by unfold HS.word; exact if_neg (by omega)
    have ht : S.there = false := decide_eq_false (by omega)
    have hz : S.ins = ⟨0, 0, 0, 0, 0⟩ := by unfold HS.ins; rw [hw]; exact dec_zero.1
    rw [hw, ht, hz]
    rintro vs rfl
    exact H.sts0 1 rfl rfl rfl (ins_one ⟨0, 0, 0, 0, 0⟩) fun w3 H => ⟨_, rfl, H.cells 1 rfl, rfl, H.post 0 rfl⟩
  · have q := of_decide_eq_false q
    have ht : S.there = true := decide_eq_true (by omega)
    have hwd : S.code[(S.pc / 4).toNat]? = some S.word := by
      unfold HS.word
      rw [if_pos (by omega), List.getD_eq_getElem?_getD, List.getElem?_eq_getElem (by omega)]
      rfl
    have src : ∀ {w : World} {L : List Asn}, St W (refA b cp cc S).own w L → ∃ g off, cp = some ⟨g, off, none⟩ ∧ w.cell? ⟨g, off + (S.pc / 4).toNat * 1, none⟩ = some (.int .u32 S.word) := fun H => by
      obtain ⟨g, off, e, -, hc⟩ := (hs.st H hi).at_ _ _ hwd
      exact ⟨g, off, e, by rw [Nat.mul_one]; exact hc⟩
    rw [ht]
    obtain ⟨g, off, hcp, hc⟩ := src H
    refine ⟨_, _, _, rcd_ld H, ⟨by omega, by omega⟩, adr_eq hcp ⟨_, hc, H.callq (qdecode_q S.word ho.word _) fun w4 H => ⟨_, _, rfl, H.al fun k9 w5 H => H.sts0 2 rfl rfl rfl (ins_one S.ins) fun w6 H => H.dr fun w7 H => ⟨_, rfl, H.cells 2 rfl, ?_, ?_⟩⟩⟩⟩
    · obtain ⟨g2, off2, hcp2, hc2⟩ := src H
      rw [hcp] at hcp2; cases hcp2
      refine ⟨_, _, _, rcd_ld H, Below.refl _ _, ⟨by omega, by omega⟩, adr_eq hcp ⟨⟨_, hc2, Below.refl _ _, H.sts0 1 rfl rfl rfl (ins_one S.ins) fun w8 H => ⟨_, rfl, H.cells 1 rfl, rfl, H.post 0 rfl⟩⟩, ?_⟩⟩
      refine H.sts0 1 rfl rfl rfl (ins_one S.ins) fun w8 H => ?_
      obtain ⟨g3, off3, hcp3, hc3⟩ := src H
      rw [hcp] at hcp3; cases hcp3
      exact ⟨_, hc3, _, rfl, H.cells 1 rfl, rfl, H.post 0 rfl⟩
    · refine H.sts0 1 rfl rfl rfl (ins_one S.ins) fun w8 H => ?_
      obtain ⟨g3, off3, hcp3, hc3⟩ := src H
      rw [hcp] at hcp3; cases hcp3
      exact ⟨_, _, _, rcd_ld H, ⟨by omega, by omega⟩, adr_eq hcp ⟨_, hc3, _, rfl, H.cells 1 rfl, rfl, H.post 0 rfl⟩⟩
/-! ### computed -/
theorem rcomputed_any (hA : (refA b cp cc S).at_ W) (ho : S.Ok) (i : Ins) (h1 : 1 ≤ i.op) (h67 : i.op ≤ 67) (hc : classP i.op = 0 ∨ classP i.op = 1) {x y : Int} (hx : U32 x) (hy : U32 y) :
    Calls Tryz.prog 53 #[.pointer (some ⟨b, 0, none⟩), .agg i.vs, .int .u32 x, .int .u32 y] W fun e w => e = .returned (.int .u32 (alu.execF i.op (operF i.op i.imm S.pc x y).1 (operF i.op i.imm S.pc x y).2)) ∧ Sep.Post (refA b cp cc S) W (refA b cp cc S) w := by
  have ht := rng_all tab2 h1 h67
  rw [show ((i.op.toNat - 1 + 1 : Nat) : Int) = i.op by omega] at ht
  obtain ⟨r1, r2, r3⟩ := row_ix h1 h67
  have hu := operF_u (op := i.op) (imm := i.imm) ho.pc hx hy
  rw [show (decide (classP i.op ≠ 0) && decide (classP i.op ≠ 1)) = false by rcases hc with h | h <;> rw [h] <;> rfl, Bool.false_or] at ht
  refine vc53 b 0 i.vs x y ((St.begin hA).al fun k w2 H => (qrows_q w2).mono ?_)
  rintro e w3 ⟨k4, rfl, hk, hh⟩
  have H := H.quiet hh
  refine ⟨_, _, _, rfl, _, H.ld 1 rfl rfl, ?_⟩
  rw [r1]
  rintro z rfl
  refine ⟨r2, adr_some ⟨rF i.op, ?_, ?_⟩⟩
  · rw [r3, Nat.zero_add]; exact (hk i.op h1 h67).2.1
  refine split_of (fun q => ?_) (fun q => split_of (fun q2 => ?_) (fun q2 => split_of (fun q3 => ?_) (fun q3 => ?_)))
  · rw [if_pos (beq_i q)] at ht
    have e : operF i.op i.imm S.pc x y = (S.pc, wr i.imm) := by unfold operF; exact if_pos (not_t ht)
    rw [e] at hu ⊢
    refine ⟨_, rpc_ld H, _, H.ld 1 rfl rfl, ?_⟩
    rintro z rfl
    exact ⟨_, H.ld 1 rfl rfl, H.callq (qexec_q _ hu.1 hu.2 _) fun w4 H => ⟨_, rfl, rfl, H.post 0 rfl⟩⟩
  · rw [if_neg (bne_i q), if_pos (.inl (beq_i q2))] at ht
    simp only [Bool.and_eq_true] at ht
    have e : operF i.op i.imm S.pc x y = (x, wr i.imm) := by unfold operF; exact (if_neg (by rw [ht.1]; decide)).trans (if_pos (not_t ht.2))
    rw [e] at hu ⊢
    refine ⟨_, H.ld 1 rfl rfl, ?_⟩
    rintro z rfl
    exact ⟨_, H.ld 1 rfl rfl, H.callq (qexec_q _ hu.1 hu.2 _) fun w4 H => ⟨_, rfl, rfl, H.post 0 rfl⟩⟩
  · rw [if_neg (bne_i q), if_pos (.inr (beq_i q3))] at ht
    simp only [Bool.and_eq_true] at ht
    have e : operF i.op i.imm S.pc x y = (x, wr i.imm) := by unfold operF; exact (if_neg (by rw [ht.1]; decide)).trans (if_pos (not_t ht.2))
    rw [e] at hu ⊢
    refine ⟨_, H.ld 1 rfl rfl, ?_⟩
    rintro z rfl
    exact ⟨_, H.ld 1 rfl rfl, H.callq (qexec_q _ hu.1 hu.2 _) fun w4 H => ⟨_, rfl, rfl, H.post 0 rfl⟩⟩
  · rw [if_neg (bne_i q), if_neg (by have := bne_i q2; have := bne_i q3; omega)] at ht
    simp only [Bool.and_eq_true] at ht
    have e : operF i.op i.imm S.pc x y = (x, y) := by unfold operF; exact (if_neg (by rw [ht.1]; decide)).trans (if_neg (by rw [ht.2]; decide))
    rw [e] at hu ⊢
    exact ⟨_, H.ld 1 rfl rfl, H.callq (qexec_q _ hu.1 hu.2 _) fun w4 H => ⟨_, rfl, rfl, H.post 0 rfl⟩⟩
end Go.Proofs.YtcpmgklhfpcaeaaGreatDoor
