import Derived.Test.YtcpmgklhfpcaeaaGreatDoorRefA
/- The document's hart: trap, done, jump, fetch, where, fault, computed, control registers. Conditions: the code it reads. -/
namespace Go.Proofs.YtcpmgklhfpcaeaaGreatDoor
open Go.RowKit Go.XHeap Go.Sx Go.Sep
set_option linter.unusedVariables false
set_option maxRecDepth 100000

variable {W w : World} {b cc : Nat} {cp : Option Addr} {S S' : HS} {L : List Asn} {B : Nat} {M : Nat → Prop} {W0 : World}
theorem tail_set (S : HS) (n v : Int) (j : Nat) (h : (n = 768 ∧ j = 2) ∨ (n = 772 ∧ j = 3) ∨ (n = 773 ∧ j = 4) ∨ (n = 832 ∧ j = 5) ∨ (n = 833 ∧ j = 6) ∨ (n = 834 ∧ j = 7) ∨ (n = 835 ∧ j = 8)) : tailL { S with R := S.R.set n v } = (tailL S).set j (.int .u32 (and32 v (maskF n))) := by
  unfold tailL
  simp only [RS.at_set]
  rcases h with ⟨rfl, rfl⟩ | ⟨rfl, rfl⟩ | ⟨rfl, rfl⟩ | ⟨rfl, rfl⟩ | ⟨rfl, rfl⟩ | ⟨rfl, rfl⟩ | ⟨rfl, rfl⟩ <;> rfl
theorem st_16 {x : Int} (h : isSt x) : and32 (wr (and32 x 8 * 16)) 136 = wr (and32 x 8 * 16) := by
  rcases h with rfl | rfl | rfl | rfl <;> decide +kernel
theorem rtrap_any (hA : (refA b cp cc S).at_ W) (ho : S.Ok) (h2 : S.Ok2) (hh : S.halted = false) (wd cause : Int) {tval : Int} (ht : U32 tval) :
    Calls Tryz.prog 43 #[.pointer (some ⟨b, 0, none⟩), .int .u32 wd, .int .i64 cause, .int .u32 tval] W fun e w => e = .returned (.agg (S.trap wd cause tval).1.vs) ∧ Sep.Post (refA b cp cc S) W (refA b cp cc (S.trap wd cause tval).2) w := by
  have h32 := ho.x32
  refine vc43 b 0 wd cause tval ((St.begin hA).al fun k w2 H => H.dr fun w3 H => ⟨_, rpc_ld H, _, rt_ld H h32 4 rfl, ?_⟩)
  rintro vs rfl
  refine H.alb fun k2 w4 H _ hb => ⟨hb, H.sts0 2 rfl rfl rfl (rt_one ⟨S.pc, wd, 0, 0, cause, tval, S.R.at 773⟩) fun w5 H => ⟨_, rt_ld H h32 4 rfl, split_of (fun q => ?_) (fun q => ?_)⟩⟩
  · have q := beq_i q
    have e : S.trap wd cause tval = (⟨S.pc, wd, 0, 0, cause, tval, S.pc⟩, { S with halted := true }) := by
      unfold HS.trap RS.trap
      rw [if_pos q]; rfl
    rw [e]
    refine rt_st H h32 0 (by decide) (.bool true) { S with halted := true } rfl rfl rfl rfl rfl rfl fun w6 H => ⟨_, rpc_ld H, ?_⟩
    refine H.st 2 rfl (show 6 < 7 by decide) fun w7 H => ⟨_, rfl, H.cells 2 rfl, H.sts0 1 rfl rfl rfl (rt_one ⟨S.pc, wd, 0, 0, cause, tval, S.pc⟩) fun w8 H => ⟨_, rfl, H.cells 1 rfl, rfl, H.post 0 rfl⟩⟩
  · have q := bne_i q
    have e : S.trap wd cause tval = (⟨S.pc, wd, 0, 0, cause, tval, S.R.at 773⟩, { S with R := S.R.trapped S.pc cause tval, pc := S.R.at 773 }) := by
      unfold HS.trap RS.trap
      rw [if_neg q]
      show (_, ({ S with R := S.R.trapped S.pc cause tval, pc := S.R.at 773, halted := false } : HS)) = _
      rw [← hh]
    rw [e]
    refine ⟨_, rpc_ld H, ?_⟩
    have e833 : and32 S.pc (maskF 833) = S.pc := by
      rw [show maskF 833 = 4294967292 from rfl, and_fffc ho.pc, h2.pc4]; omega
    refine rt_st H h32 6 (by decide) (.int .u32 S.pc) { S with R := S.R.set 833 S.pc } rfl rfl rfl rfl rfl (by rw [tail_set S 833 S.pc 6 (by omega), e833]) fun w6 H => ?_
    rintro z rfl
    refine rt_st H h32 7 (by decide) (.int .u32 (wr cause)) { S with R := (S.R.set 833 S.pc).set 834 (wr cause) } rfl rfl rfl rfl rfl (by
      have := tail_set { S with R := S.R.set 833 S.pc } 834 (wr cause) 7 (by omega)
      rw [show maskF 834 = 4294967295 from rfl, and_ffff (wr_u _)] at this
      exact this) fun w7 H => ?_
    refine rt_st H h32 8 (by decide) (.int .u32 tval) { S with R := ((S.R.set 833 S.pc).set 834 (wr cause)).set 835 tval } rfl rfl rfl rfl rfl (by
      have := tail_set { S with R := (S.R.set 833 S.pc).set 834 (wr cause) } 835 tval 8 (by omega)
      rw [show maskF 835 = 4294967295 from rfl, and_ffff ht] at this
      exact this) fun w8 H => ⟨_, rt_ld H h32 2 rfl, ?_⟩
    have e1 : (((S.R.set 833 S.pc).set 834 (wr cause)).set 835 tval).at 768 = S.R.at 768 := by rw [RS.at_set, RS.at_set, RS.at_set]; rfl
    rintro z rfl
    refine ⟨by decide, ?_⟩
    rintro z rfl
    refine rt_st H h32 2 (by decide) _ { S with R := S.R.trapped S.pc cause tval } rfl rfl rfl rfl rfl (by
      have := tail_set { S with R := ((S.R.set 833 S.pc).set 834 (wr cause)).set 835 tval } 768 (wr (and32 (S.R.at 768) 8 * 16)) 2 (by omega)
      rw [show maskF 768 = 136 from rfl, st_16 h2.st] at this
      exact this) fun w9 H => ⟨_, rt_ld H h32 4 rfl, ?_⟩
    have e2 : (S.R.trapped S.pc cause tval).at 773 = S.R.at 773 := by unfold RS.trapped; rw [RS.at_set, RS.at_set, RS.at_set, RS.at_set]; rfl
    rw [show ({ S with R := S.R.trapped S.pc cause tval } : HS).R.at 773 = S.R.at 773 from e2]
    exact rpc_st H h32 _ fun w10 H => ⟨_, rfl, H.cells 2 rfl, H.sts0 1 rfl rfl rfl (rt_one ⟨S.pc, wd, 0, 0, cause, tval, S.R.at 773⟩) fun w11 H => ⟨_, rfl, H.cells 1 rfl, rfl, H.post 0 rfl⟩⟩
/-! ### done -/
def HS.rdone (S : HS) (wd rd v next : Int) : Rt × HS := (⟨S.pc, wd, rd, if rd = 0 then 0 else v, -1, 0, next⟩, { S with x := S.x.set rd.toNat (if rd = 0 then 0 else v), pc := next, R := S.R.counted })
theorem rdone_any (hA : (refA b cp cc S).at_ W) (h32 : S.x.length = 32) (hr : 0 ≤ S.R.ret ∧ S.R.ret < 4294967295) (wd rd v next : Int) (hd : 0 ≤ rd ∧ rd < 32) :
    Calls Tryz.prog 54 #[.pointer (some ⟨b, 0, none⟩), .int .u32 wd, .int .i64 rd, .int .u32 v, .int .u32 next] W fun e w => e = .returned (.agg (S.rdone wd rd v next).1.vs) ∧ Sep.Post (refA b cp cc S) W (refA b cp cc (S.rdone wd rd v next).2) w := by
  have key : ∀ (u : Int) (hu : u = if rd = 0 then 0 else v) (k : Nat) (w2 : World), St W (refA b cp cc S).own w2 [refA b cp cc S, blk k noRt.vs 46] → ∃ z : Int, w2.cell? ⟨b, 0 + 3, none⟩ = some (.int .u32 z) ∧ ∀ vs : Array Value, vs = #[.int .u32 z, .int .u32 wd, .int .i64 rd, .int .u32 u, .int .i64 (-1), .int .u32 0, .int .u32 next] → ∀ (k2 : Nat) (w3 : World), k2 = w2.heap.size → w3 = w2.alloc (.cells noRt.vs 46) →
      vs.size = 7 ∧ (∀ j : Nat, j < 7 → (∃ x, w3.cell? ⟨k2, 0 + j, none⟩ = some x) ∧ w3.frozen? ⟨k2, 0 + j, none⟩ = false) ∧ (∀ x : Value, x ∈ vs.toList → x.oneCell' = true) ∧ ∀ w4 : World, w4 = w3.setCells k2 0 vs.toList → (0 ≤ rd ∧ rd < ((32 : Nat) : Int)) ∧ (∃ x, w4.cell? ⟨b, 0 + 4 + rd.toNat * 1, none⟩ = some x) ∧ w4.frozen? ⟨b, 0 + 4 + rd.toNat * 1, none⟩ = false ∧ ∀ w5 : World, w5 = w4.setCell ⟨b, 0 + 4 + rd.toNat * 1, none⟩ (.int .u32 u) →
        (∃ x, w5.cell? ⟨b, 0 + 3, none⟩ = some x) ∧ w5.frozen? ⟨b, 0 + 3, none⟩ = false ∧ ∀ w6 : World, w6 = w5.setCell ⟨b, 0 + 3, none⟩ (.int .u32 next) → ∃ z2 : Int, w6.cell? ⟨b, 0 + 37, none⟩ = some (.int .i64 z2) ∧ ∀ z3 : Int, z3 = IntKind.wrap .i64 (z2 + 1) → (∃ x, w6.cell? ⟨b, 0 + 37, none⟩ = some x) ∧ w6.frozen? ⟨b, 0 + 37, none⟩ = false ∧ ∀ w7 : World, w7 = w6.setCell ⟨b, 0 + 37, none⟩ (.int .i64 z3) →
          ∃ vs2 : Array Value, vs2.size = 7 ∧ cellsAt w7 ⟨k2, 0, none⟩ vs2 ∧ vs2.size = 7 ∧ (∀ j : Nat, j < 7 → (∃ x, w7.cell? ⟨k, 0 + j, none⟩ = some x) ∧ w7.frozen? ⟨k, 0 + j, none⟩ = false) ∧ (∀ x : Value, x ∈ vs2.toList → x.oneCell' = true) ∧ ∀ w8 : World, w8 = w7.setCells k 0 vs2.toList → ∃ vs3 : Array Value, vs3.size = 7 ∧ cellsAt w8 ⟨k, 0, none⟩ vs3 ∧ (Ending.returned (.agg vs3) = .returned (.agg (S.rdone wd rd v next).1.vs) ∧ Sep.Post (refA b cp cc S) W (refA b cp cc (S.rdone wd rd v next).2) w8) := by
    intro u hu k w2 H
    refine ⟨_, rpc_ld H, ?_⟩
    rintro vs rfl
    refine H.al fun k2 w3 H => H.sts0 2 rfl rfl rfl (rt_one ⟨S.pc, wd, rd, u, -1, 0, next⟩) fun w4 H => ⟨hd, rx_st H h32 rd hd.1 hd.2 u fun w5 H => ?_⟩
    have h32' : ({ S with x := S.x.set rd.toNat u } : HS).x.length = 32 := by rw [show ({ S with x := S.x.set rd.toNat u } : HS).x = S.x.set rd.toNat u from rfl, List.length_set]; exact h32
    refine rpc_st H h32' next fun w6 H => ⟨_, rt_ld H h32' 1 rfl, ?_⟩
    rintro z rfl
    have er : IntKind.wrap .i64 (S.R.ret + 1) = S.R.counted.ret := by
      rw [w64 (by omega) (by omega)]
      exact (wr_id ⟨by omega, by omega⟩).symm
    refine rt_st H h32' 1 (by decide) _ { S with x := S.x.set rd.toNat u, pc := next, R := S.R.counted } rfl rfl rfl rfl rfl (by
      show tailL _ = _
      unfold tailL
      rw [show IntKind.wrap .i64 (({ S with x := S.x.set rd.toNat u, pc := next } : HS).R.ret + 1) = S.R.counted.ret from er]
      rfl) fun w7 H => ?_
    refine ⟨_, rfl, H.cells 2 rfl, H.sts0 1 rfl rfl rfl (rt_one ⟨S.pc, wd, rd, u, -1, 0, next⟩) fun w8 H => ⟨_, rfl, H.cells 1 rfl, ?_, ?_⟩⟩
    · unfold HS.rdone; rw [hu]; rfl
    · unfold HS.rdone; rw [← hu]; exact H.post 0 rfl
  refine vc54 b 0 wd rd v next ((St.begin hA).al fun k w2 H => split_of (fun q => ?_) (fun q => ?_))
  · exact key 0 (if_pos (beq_i q)).symm k w2 H
  · exact key v (if_neg (bne_i q)).symm k w2 H
/-- a hart's answer, in the cell of the caller's result -/
theorem r_tail {A A' : Asn} {r : Rt} {f : FuncId} {args : Array Value} {k : Nat} {cs : Array Value} {Φ : Array Value → World → Prop} (H : St W0 M w (A :: blk k cs 46 :: L)) (hs : cs.size = 7)
    (hc : Calls Tryz.prog f args w fun e w' => e = .returned (.agg r.vs) ∧ Sep.Post A w A' w') (hq : ∀ w', St W0 M w' (A' :: blk k r.vs 46 :: L) → Φ r.vs w') :
    Calls Tryz.prog f args w fun e w' => ∃ vs : Array Value, e = .returned (.agg vs) ∧ vs.size = 7 ∧ (∀ j : Nat, j < 7 → (∃ v, w'.cell? ⟨k, 0 + j, none⟩ = some v) ∧ w'.frozen? ⟨k, 0 + j, none⟩ = false) ∧ (∀ v : Value, v ∈ vs.toList → v.oneCell' = true) ∧
      ∀ w8 : World, w8 = w'.setCells k 0 vs.toList → ∃ vs4 : Array Value, vs4.size = 7 ∧ cellsAt w8 ⟨k, 0, none⟩ vs4 ∧ Φ vs4 w8 :=
  H.call 0 rfl hc fun w' H => ⟨_, rfl, H.sts0 1 rfl rfl hs (rt_one _) fun w8 H => ⟨_, rfl, H.cells 1 rfl, hq _ H⟩⟩
def HS.rjump (S : HS) (wd rd to : Int) : Rt × HS := if to % 4 ≠ 0 then S.trap wd 0 to else S.rdone wd rd S.p4 to
theorem rjump_any (hA : (refA b cp cc S).at_ W) (ho : S.Ok) (h2 : S.Ok2) (hh : S.halted = false) (hr : S.R.ret < 4294967295) (wd rd : Int) (hd : 0 ≤ rd ∧ rd < 32) {to : Int} (ht : U32 to) :
    Calls Tryz.prog 56 #[.pointer (some ⟨b, 0, none⟩), .int .u32 wd, .int .i64 rd, .int .u32 to] W fun e w => e = .returned (.agg (S.rjump wd rd to).1.vs) ∧ Sep.Post (refA b cp cc S) W (refA b cp cc (S.rjump wd rd to).2) w := by
  refine vc56 b 0 wd rd to ((St.begin hA).al fun k w2 H => ⟨by decide, ?_⟩)
  rintro z rfl
  rw [Int.tmod_eq_emod_of_nonneg ht.1]
  refine split_of (fun q => ?_) (fun q => ?_)
  · have e : S.rjump wd rd to = S.trap wd 0 to := by unfold HS.rjump; exact if_pos (bne_t q)
    rw [e]
    exact r_tail (L := []) H rfl (rtrap_any (H.nth 0 rfl) ho h2 hh wd 0 ht) fun w3 H => ⟨rfl, H.post 0 rfl⟩
  · have e : S.rjump wd rd to = S.rdone wd rd S.p4 to := by unfold HS.rjump; exact if_neg (fun h => h (bne_f q))
    rw [e]
    refine ⟨_, rpc_ld H, ?_⟩
    rintro z rfl
    exact r_tail (L := []) H rfl (rdone_any (H.nth 0 rfl) ho.x32 ⟨ho.R.ret.1, hr⟩ wd rd _ to hd) fun w3 H => ⟨rfl, H.post 0 rfl⟩
/-! ### where, fault -/
theorem rwhere_any (hA : (refA b cp cc S).at_ W) (h32 : S.x.length = 32) (i : Ins) (hi : i.Ok) (h1 : 1 ≤ i.op) (h67 : i.op ≤ 67) : Calls Tryz.prog 38 #[.pointer (some ⟨b, 0, none⟩), .agg i.vs] W fun e w => e = .returned (.int .u32 (whereF i.op i.imm (S.reg i.rs1))) ∧ Sep.Post (refA b cp cc S) W (refA b cp cc S) w := by
  refine vc38 b 0 i.vs ((St.begin hA).al fun k w2 H => ⟨_, H.ld 1 rfl rfl, H.callq (qclass_q i.op h1 h67 _) fun w3 H => ⟨_, rfl, split_of (fun q => ?_) (fun q => ?_)⟩⟩)
  · refine ⟨_, H.ld 1 rfl rfl, hi.2.1, _, rx_ld H h32 _ hi.2.1.1 hi.2.1.2, H.drN fun w4 H => ⟨?_, H.post 0 rfl⟩⟩
    unfold whereF; rw [if_pos (beq_i q)]
  · refine ⟨_, H.ld 1 rfl rfl, hi.2.1, _, rx_ld H h32 _ hi.2.1.1 hi.2.1.2, _, H.ld 1 rfl rfl, ?_⟩
    rintro z rfl z2 rfl
    refine H.drN fun w4 H => ⟨?_, H.post 0 rfl⟩
    unfold whereF; rw [if_neg (bne_i q)]; rfl
def inF (n addr data : Int) : Bool := decide (65536 ≤ addr ∧ addr + n ≤ 65536 + data)
def devF (op n addr : Int) : Bool := decide (classP op = 5 ∧ 131072 ≤ addr ∧ addr + n ≤ 131076)
theorem reach_eq {op addr data : Int} (hn : alu.sizeF op = 1 ∨ alu.sizeF op = 2 ∨ alu.sizeF op = 4) (ha : U32 addr) (hd : 0 ≤ data ∧ data ≤ 4096) :
    reachF op addr data = if addr % alu.sizeF op ≠ 0 then (if isLd op then 4 else 6) else if (inF (alu.sizeF op) addr data || devF op (alu.sizeF op) addr) = true then -1 else if isLd op then 5 else 7 := by
  have ea : and32 addr (wr (wr (alu.sizeF op) - 1)) = addr % alu.sizeF op := by
    rcases hn with h | h | h <;> rw [h]
    · exact (and_mod ha 0 (by decide)).trans rfl
    · exact (and_mod ha 1 (by decide)).trans rfl
    · exact (and_mod ha 2 (by decide)).trans rfl
  obtain ⟨a0, a1⟩ := ha
  have e1 : withinF addr (wr (alu.sizeF op)) 65536 (wr data) = inF (alu.sizeF op) addr data := by
    unfold withinF inF wr
    simp only [w32m]
    rw [← Bool.decide_and, decide_eq_decide]
    omega
  have e2 : (classP op = 5 ∧ withinF addr (wr (alu.sizeF op)) 131072 4 = true) ↔ devF op (alu.sizeF op) addr = true := by
    unfold withinF devF wr
    simp only [w32m, Bool.and_eq_true, decide_eq_true_eq]
    constructor
    · rintro ⟨h1, h2, h3⟩; exact ⟨h1, by omega, by omega⟩
    · rintro ⟨h1, h2, h3⟩; exact ⟨h1, by omega, by omega⟩
  unfold reachF
  rw [ea, e1]
  by_cases h0 : addr % alu.sizeF op ≠ 0
  · rw [if_pos h0, if_pos h0]
  rw [if_neg h0, if_neg h0]
  cases h1 : inF (alu.sizeF op) addr data with
  | true => rw [if_pos rfl, if_pos (by rfl)]
  | false =>
    rw [if_neg (by decide)]
    by_cases h2 : devF op (alu.sizeF op) addr = true
    · rw [if_pos (e2.2 h2), if_pos (by rw [h2]; rfl)]
    · rw [if_neg (fun h => h2 (e2.1 h)), Bool.false_or, if_neg h2]
end Go.Proofs.YtcpmgklhfpcaeaaGreatDoor
/- The document's hart: fetch, fault, computed, control registers, memory. Conditions: the code it reads. -/
namespace Go.Proofs.YtcpmgklhfpcaeaaGreatDoor
open Go.RowKit Go.XHeap Go.Sx Go.Sep
set_option linter.unusedVariables false
set_option maxRecDepth 100000

variable {W w : World} {b cc : Nat} {cp : Option Addr} {S S' : HS} {L : List Asn} {B : Nat} {M : Nat → Prop} {W0 : World}
theorem adr_eq {p : Option Addr} {g o : Nat} {f : Nat → Nat → Prop} (e : p = some ⟨g, o, none⟩) (h : f g o) : Sx.adr p f := by subst e; exact h
/-- a row's cell, by the operation's index in a slice of rows -/
theorem row_ix {op : Int} (h1 : 1 ≤ op) (h2 : op ≤ 67) : IntKind.wrap .i64 (op - 1) = op - 1 ∧ (0 ≤ op - 1 ∧ op - 1 < ((67 : Nat) : Int)) ∧ (op - 1).toNat = op.toNat - 1 := ⟨w64 (by omega) (by omega), ⟨by omega, by omega⟩, by omega⟩
theorem rfault_any (hA : (refA b cp cc S).at_ W) (hd : 0 ≤ S.data ∧ S.data ≤ 4096) {op addr : Int} (h1 : 1 ≤ op) (h67 : op ≤ 67) (hn : alu.sizeF op ≠ 0) (ha : U32 addr) :
    Calls Tryz.prog 39 #[.pointer (some ⟨b, 0, none⟩), .int .i64 op, .int .u32 addr] W fun e w => e = .returned (.int .i64 (reachF op addr S.data)) ∧ Sep.Post (refA b cp cc S) W (refA b cp cc S) w := by
  have hs : alu.sizeF op = 1 ∨ alu.sizeF op = 2 ∨ alu.sizeF op = 4 := (size_cases op).resolve_left hn
  have hre := reach_eq (op := op) (addr := addr) (data := S.data) hs ha hd
  obtain ⟨a0, a1⟩ := ha
  have hw : IntKind.wrap .i64 addr = addr := w64 (by omega) (by omega)
  obtain ⟨r1, r2, r3⟩ := row_ix h1 h67
  have H := St.begin hA
  refine vc39 b 0 op addr (H.callq (qsize_q op _) fun w2 H => ⟨_, rfl, H.callq (qclass_q op h1 h67 _) fun w3 H => ⟨_, rfl, (qrows_q w3).mono ?_⟩⟩)
  rintro e w4 ⟨k, rfl, hk, hh⟩
  have H := H.quiet hh
  generalize hng : alu.sizeF op = n at hre hs hn ⊢
  refine ⟨_, _, _, rfl, fun x w => x = isLd op ∧ St W (refA b cp cc S).own w [refA b cp cc S], split_of (fun q => ⟨?_, H⟩) (fun q => ?_), fun _ => ?_⟩
  · unfold isLd; rw [decide_eq_true (beq_i q)]; rfl
  · rw [r1]
    rintro z rfl
    refine ⟨r2, adr_some ⟨(rowAt op).1, ?_, ?_, H⟩⟩
    · rw [r3, Nat.zero_add]; exact (hk op h1 h67).1
    · rw [is_lrw h1 h67]
      unfold isLd; rw [decide_eq_false (bne_i q), Bool.false_or]
  rintro x w5 ⟨rfl, H⟩
  refine ⟨fun x w => x = inF n addr S.data ∧ St W (refA b cp cc S).own w [refA b cp cc S], ?_, fun _ => ?_⟩
  · rw [hw]
    rintro z rfl
    refine split_of (fun q => ?_) (fun q => ?_)
    · have q := of_decide_eq_true q
      rintro z rfl
      rw [w64 (by omega) (by omega)]
      rintro z rfl
      refine ⟨_, rdt_ld H, ?_⟩
      rw [w64 (by omega) (by omega)]
      rintro z rfl
      refine ⟨?_, H⟩
      unfold inF
      rw [decide_eq_decide]
      omega
    · have q := of_decide_eq_false q
      exact ⟨(decide_eq_false (by omega)).symm, H⟩
  rintro x w6 ⟨rfl, H⟩
  refine ⟨fun x w => x = devF op n addr ∧ St W (refA b cp cc S).own w [refA b cp cc S], ?_, fun _ => ?_⟩
  · rw [hw]
    refine split_of (fun q => ?_) (fun q => ⟨(decide_eq_false (fun h => bne_i q h.1)).symm, H⟩)
    rintro z rfl
    refine split_of (fun q2 => ?_) (fun q2 => ?_)
    · have q2 := of_decide_eq_true q2
      rintro z rfl
      rw [w64 (by omega) (by omega)]
      rintro z rfl
      refine ⟨?_, H⟩
      have q := beq_i q
      unfold devF
      rw [decide_eq_decide]
      omega
    · have q2 := of_decide_eq_false q2
      exact ⟨(decide_eq_false (by omega)).symm, H⟩
  rintro x w7 ⟨rfl, H⟩
  have tm : Int.tmod addr n = addr % n := Int.tmod_eq_emod_of_nonneg a0
  have fin : ∀ r : Int, r = reachF op addr S.data → Ending.returned (.int .i64 r) = .returned (.int .i64 (reachF op addr S.data)) ∧ Sep.Post (refA b cp cc S) W (refA b cp cc S) w7 := fun r h => ⟨by rw [h], H.post 0 rfl⟩
  rw [hw]
  intro z hz
  obtain rfl : addr = z := hz.symm
  refine ⟨hn, ?_⟩
  rw [tm]
  rintro z rfl
  cases hi : inF n addr S.data with
  | true =>
    rw [hi, Bool.true_or, if_pos rfl] at hre
    refine split_of (fun q => ?_) (fun q => ?_)
    · have q := bne_t q
      rw [if_pos q] at hre
      refine split_of (fun q2 => fin 4 ?_) (fun q2 => ?_)
      · rw [hre, if_pos q2]
      · intro z hz
        obtain rfl : addr = z := hz.symm
        refine ⟨hn, ?_⟩
        rw [tm]
        rintro z rfl
        refine split_of (fun q3 => fin 6 ?_) (fun q3 => absurd (bne_f q3) q)
        rw [hre, if_neg (by rw [q2]; decide)]
    · have q := bne_f q
      rw [if_neg (fun h => h q)] at hre
      intro z hz
      obtain rfl : addr = z := hz.symm
      refine ⟨hn, ?_⟩
      rw [tm]
      rintro z rfl
      refine split_of (fun q3 => absurd q (bne_t q3)) (fun q3 => split_of (fun h => by cases h) fun _ => split_of (fun h => by cases h) fun _ => fin (-1) hre.symm)
  | false =>
    rw [hi, Bool.false_or] at hre
    have tail : addr % n = 0 → Sx.split (!devF op n addr) (Sx.split (isLd op) (Ending.returned (.int .i64 5) = .returned (.int .i64 (reachF op addr S.data)) ∧ Sep.Post (refA b cp cc S) W (refA b cp cc S) w7) (Sx.split (!false) (Sx.split (!devF op n addr) (Ending.returned (.int .i64 7) = .returned (.int .i64 (reachF op addr S.data)) ∧ Sep.Post (refA b cp cc S) W (refA b cp cc S) w7) (Ending.returned (.int .i64 (-1)) = .returned (.int .i64 (reachF op addr S.data)) ∧ Sep.Post (refA b cp cc S) W (refA b cp cc S) w7)) (Ending.returned (.int .i64 (-1)) = .returned (.int .i64 (reachF op addr S.data)) ∧ Sep.Post (refA b cp cc S) W (refA b cp cc S) w7)))
        (Sx.split (!false) (Sx.split (!devF op n addr) (Ending.returned (.int .i64 7) = .returned (.int .i64 (reachF op addr S.data)) ∧ Sep.Post (refA b cp cc S) W (refA b cp cc S) w7) (Ending.returned (.int .i64 (-1)) = .returned (.int .i64 (reachF op addr S.data)) ∧ Sep.Post (refA b cp cc S) W (refA b cp cc S) w7)) (Ending.returned (.int .i64 (-1)) = .returned (.int .i64 (reachF op addr S.data)) ∧ Sep.Post (refA b cp cc S) W (refA b cp cc S) w7)) := by
      intro h0
      rw [if_neg (fun h => h h0)] at hre
      refine split_of (fun d => ?_) (fun d => ?_)
      · rw [if_neg (by rw [not_t d]; decide)] at hre
        refine split_of (fun l => fin 5 ?_) (fun l => split_of (fun _ => split_of (fun _ => fin 7 ?_) (fun d2 => absurd d2 (by rw [d]; decide))) (fun h => by cases h))
        · rw [hre, if_pos l]
        · rw [hre, if_neg (by rw [l]; decide)]
      · rw [if_pos (not_f d)] at hre
        exact split_of (fun _ => split_of (fun d2 => absurd d2 (by rw [d]; decide)) (fun _ => fin (-1) hre.symm)) (fun h => by cases h)
    refine split_of (fun q => ?_) (fun q => ?_)
    · have q := bne_t q
      rw [if_pos q] at hre
      refine split_of (fun q2 => fin 4 ?_) (fun q2 => ?_)
      · rw [hre, if_pos q2]
      · intro z hz
        obtain rfl : addr = z := hz.symm
        refine ⟨hn, ?_⟩
        rw [tm]
        rintro z rfl
        refine split_of (fun q3 => fin 6 ?_) (fun q3 => absurd (bne_f q3) q)
        rw [hre, if_neg (by rw [q2]; decide)]
    · have q := bne_f q
      intro z hz
      obtain rfl : addr = z := hz.symm
      refine ⟨hn, ?_⟩
      rw [tm]
      rintro z rfl
      exact split_of (fun q3 => absurd q (bne_t q3)) (fun _ => split_of (fun _ => tail q) (fun h => by cases h))
/-! ### fetch -/
theorem dec_zero : decF 0 = ⟨0, 0, 0, 0, 0⟩ ∧ decOk 0 = false := ⟨by kernel_rfl, by kernel_rfl⟩
theorem rfetch_any (hA : (refA b cp cc S).at_ W) (ho : S.Ok) (hs : Src B W cp S.code) (hi : ∀ k, (refA b cp cc S).own k → B ≤ k) :
    Calls Tryz.prog 36 #[.pointer (some ⟨b, 0, none⟩)] W fun e w => e = .returned (.tuple #[.agg S.ins.vs, .int .u32 S.word, .bool (S.there && decOk S.word)]) ∧ Sep.Post (refA b cp cc S) W (refA b cp cc S) w := by
  obtain ⟨p0, p1⟩ := ho.pc
  refine vc36 b 0 ((St.begin hA).al fun k w2 H => ⟨_, rpc_ld H, by decide, ?_⟩)
  rintro z rfl
  have e1 : IntKind.wrap .u32 (Int.tdiv S.pc 4) = S.pc / 4 := by
    rw [Int.tdiv_eq_ediv_of_nonneg p0]
    exact w32 (by omega) (by omega)
  rw [e1]
  rintro z rfl
  rw [w64 (by omega) (by omega)]
  refine ⟨_, _, _, rcd_ld H, split_of (fun q => ?_) (fun q => ?_)⟩
  · have q := of_decide_eq_true q
    have hw : S.word = 0 := by unfold HS.word; exact if_neg (by omega)
    have ht : S.there = false := decide_eq_false (by omega)
    have hz : S.ins = ⟨0, 0, 0, 0, 0⟩ := by unfold HS.ins; rw [hw]; exact dec_zero.1
    rw [hw, ht, hz]
    rintro vs rfl
    exact H.sts0 1 rfl rfl rfl (ins_one ⟨0, 0, 0, 0, 0⟩) fun w3 H => ⟨_, rfl, H.cells 1 rfl, rfl, H.post 0 rfl⟩
  · have q := of_decide_eq_false q
    have ht : S.there = true := decide_eq_true (by omega)
    have hwd : S.code[(S.pc / 4).toNat]? = some S.word := by
      unfold HS.word
      rw [if_pos (by omega), List.getD_eq_getElem?_getD, List.getElem?_eq_getElem (by omega)]
      rfl
    have src : ∀ {w : World} {L : List Asn}, St W (refA b cp cc S).own w L → ∃ g off, cp = some ⟨g, off, none⟩ ∧ w.cell? ⟨g, off + (S.pc / 4).toNat * 1, none⟩ = some (.int .u32 S.word) := fun H => by
      obtain ⟨g, off, e, -, hc⟩ := (hs.st H hi).at_ _ _ hwd
      exact ⟨g, off, e, by rw [Nat.mul_one]; exact hc⟩
    rw [ht]
    obtain ⟨g, off, hcp, hc⟩ := src H
    refine ⟨_, _, _, rcd_ld H, ⟨by omega, by omega⟩, adr_eq hcp ⟨_, hc, H.callq (qdecode_q S.word ho.word _) fun w4 H => ⟨_, _, rfl, H.al fun k9 w5 H => H.sts0 2 rfl rfl rfl (ins_one S.ins) fun w6 H => H.dr fun w7 H => ⟨_, rfl, H.cells 2 rfl, ?_, ?_⟩⟩⟩⟩
    · obtain ⟨g2, off2, hcp2, hc2⟩ := src H
      rw [hcp] at hcp2; cases hcp2
      refine ⟨_, _, _, rcd_ld H, Below.refl _ _, ⟨by omega, by omega⟩, adr_eq hcp ⟨⟨_, hc2, Below.refl _ _, H.sts0 1 rfl rfl rfl (ins_one S.ins) fun w8 H => ⟨_, rfl, H.cells 1 rfl, rfl, H.post 0 rfl⟩⟩, ?_⟩⟩
      refine H.sts0 1 rfl rfl rfl (ins_one S.ins) fun w8 H => ?_
      obtain ⟨g3, off3, hcp3, hc3⟩ := src H
      rw [hcp] at hcp3; cases hcp3
      exact ⟨_, hc3, _, rfl, H.cells 1 rfl, rfl, H.post 0 rfl⟩
    · refine H.sts0 1 rfl rfl rfl (ins_one S.ins) fun w8 H => ?_
      obtain ⟨g3, off3, hcp3, hc3⟩ := src H
      rw [hcp] at hcp3; cases hcp3
      exact ⟨_, _, _, rcd_ld H, ⟨by omega, by omega⟩, adr_eq hcp ⟨_, hc3, _, rfl, H.cells 1 rfl, rfl, H.post 0 rfl⟩⟩
/-! ### computed -/
theorem rcomputed_any (hA : (refA b cp cc S).at_ W) (ho : S.Ok) (i : Ins) (h1 : 1 ≤ i.op) (h67 : i.op ≤ 67) (hc : classP i.op = 0 ∨ classP i.op = 1) {x y : Int} (hx : U32 x) (hy : U32 y) :
    Calls Tryz.prog 53 #[.pointer (some ⟨b, 0, none⟩), .agg i.vs, .int .u32 x, .int .u32 y] W fun e w => e = .returned (.int .u32 (alu.execF i.op (operF i.op i.imm S.pc x y).1 (operF i.op i.imm S.pc x y).2)) ∧ Sep.Post (refA b cp cc S) W (refA b cp cc S) w := by
  have ht := rng_all tab2 h1 h67
  rw [show ((i.op.toNat - 1 + 1 : Nat) : Int) = i.op by omega] at ht
  obtain ⟨r1, r2, r3⟩ := row_ix h1 h67
  have hu := operF_u (op := i.op) (imm := i.imm) ho.pc hx hy
  rw [show (decide (classP i.op ≠ 0) && decide (classP i.op ≠ 1)) = false by rcases hc with h | h <;> rw [h] <;> rfl, Bool.false_or] at ht
  refine vc53 b 0 i.vs x y ((St.begin hA).al fun k w2 H => (qrows_q w2).mono ?_)
  rintro e w3 ⟨k4, rfl, hk, hh⟩
  have H := H.quiet hh
  refine ⟨_, _, _, rfl, _, H.ld 1 rfl rfl, ?_⟩
  rw [r1]
  rintro z rfl
  refine ⟨r2, adr_some ⟨rF i.op, ?_, ?_⟩⟩
  · rw [r3, Nat.zero_add]; exact (hk i.op h1 h67).2.1
  refine split_of (fun q => ?_) (fun q => split_of (fun q2 => ?_) (fun q2 => split_of (fun q3 => ?_) (fun q3 => ?_)))
  · rw [if_pos (beq_i q)] at ht
    have e : operF i.op i.imm S.pc x y = (S.pc, wr i.imm) := by unfold operF; exact if_pos (not_t ht)
    rw [e] at hu ⊢
    refine ⟨_, rpc_ld H, _, H.ld 1 rfl rfl, ?_⟩
    rintro z rfl
    exact ⟨_, H.ld 1 rfl rfl, H.callq (qexec_q _ hu.1 hu.2 _) fun w4 H => ⟨_, rfl, rfl, H.post 0 rfl⟩⟩
  · rw [if_neg (bne_i q), if_pos (.inl (beq_i q2))] at ht
    simp only [Bool.and_eq_true] at ht
    have e : operF i.op i.imm S.pc x y = (x, wr i.imm) := by unfold operF; exact (if_neg (by rw [ht.1]; decide)).trans (if_pos (not_t ht.2))
    rw [e] at hu ⊢
    refine ⟨_, H.ld 1 rfl rfl, ?_⟩
    rintro z rfl
    exact ⟨_, H.ld 1 rfl rfl, H.callq (qexec_q _ hu.1 hu.2 _) fun w4 H => ⟨_, rfl, rfl, H.post 0 rfl⟩⟩
  · rw [if_neg (bne_i q), if_pos (.inr (beq_i q3))] at ht
    simp only [Bool.and_eq_true] at ht
    have e : operF i.op i.imm S.pc x y = (x, wr i.imm) := by unfold operF; exact (if_neg (by rw [ht.1]; decide)).trans (if_pos (not_t ht.2))
    rw [e] at hu ⊢
    refine ⟨_, H.ld 1 rfl rfl, ?_⟩
    rintro z rfl
    exact ⟨_, H.ld 1 rfl rfl, H.callq (qexec_q _ hu.1 hu.2 _) fun w4 H => ⟨_, rfl, rfl, H.post 0 rfl⟩⟩
  · rw [if_neg (bne_i q), if_neg (by have := bne_i q2; have := bne_i q3; omega)] at ht
    simp only [Bool.and_eq_true] at ht
    have e : operF i.op i.imm S.pc x y = (x, y) := by unfold operF; exact (if_neg (by rw [ht.1]; decide)).trans (if_neg (by rw [ht.2]; decide))
    rw [e] at hu ⊢
    exact ⟨_, H.ld 1 rfl rfl, H.callq (qexec_q _ hu.1 hu.2 _) fun w4 H => ⟨_, rfl, rfl, H.post 0 rfl⟩⟩
end Go.Proofs.YtcpmgklhfpcaeaaGreatDoor
/- The document's hart: control registers, system, memory, Do. Conditions: the code it reads. -/
namespace Go.Proofs.YtcpmgklhfpcaeaaGreatDoor
open Go.RowKit Go.XHeap Go.Sx Go.Sep
set_option linter.unusedVariables false
set_option maxRecDepth 100000

variable {W w : World} {b cc : Nat} {cp : Option Addr} {S S' : HS} {L : List Asn} {B : Nat} {M : Nat → Prop} {W0 : World}
/-! ### plainly -/
theorem set_zero {x : List Int} (h : x.length = 32) (h0 : x.getD 0 0 = 0) : x.set 0 0 = x := by
  cases x with
  | nil => rfl
  | cons a l =>
    have : a = 0 := h0
    rw [this]; rfl
theorem fin_rdone (ho : S.Ok) {v next : Int} {R : RS} (hn : U32 next) (h4 : next % 4 = 0) {rd : Int} (hrd : rd = if writesP S.ins.op then S.ins.rd else 0) : S.fin v next R = ({ S with R := R } : HS).rdone S.word rd v next := by
  have hok : 0 ≤ S.ins.rd ∧ S.ins.rd < 32 := (decF_ok S.word).1
  unfold HS.fin HS.rdone
  rw [if_neg (by rw [and_3 hn, h4]; decide)]
  by_cases hw : S.wrs = true
  · have hw' := hw
    unfold HS.wrs at hw'
    simp only [Bool.and_eq_true, decide_eq_true_eq] at hw'
    rw [hw'.1, if_pos rfl] at hrd
    rw [hw, if_pos rfl, if_pos rfl, if_pos rfl, hrd, if_neg (by omega)]
  · have hw : S.wrs = false := by simpa using hw
    have h0 : rd = 0 := by
      cases hp : writesP S.ins.op with
      | false => rw [hp] at hrd; exact hrd
      | true =>
        rw [hp, if_pos rfl] at hrd
        unfold HS.wrs at hw
        rw [hp, Bool.true_and] at hw
        have := of_decide_eq_false hw
        omega
    rw [hw, h0]
    show (_, _) = (_, _)
    rw [show ({ S with R := R } : HS).x = S.x from rfl]
    simp only [if_pos]
    rw [show (0 : Int).toNat = 0 from rfl, set_zero ho.x32 ho.x0]
    rfl
theorem fin_rjump (ho : S.Ok) {v next : Int} (hn : U32 next) {rd : Int} (hrd : rd = if writesP S.ins.op then S.ins.rd else 0) (hv : rd = 0 ∨ v = S.p4) : S.fin v next S.R = S.rjump S.word rd next := by
  unfold HS.rjump
  by_cases h : next % 4 = 0
  · rw [if_neg (fun h2 => h2 h), fin_rdone ho hn h hrd]
    rcases hv with h0 | h0
    · unfold HS.rdone; rw [h0, if_pos rfl, if_pos rfl]
    · rw [h0]
  · rw [if_pos h]
    unfold HS.fin
    rw [if_pos (by rw [and_3 hn]; exact h)]
theorem or_comm32 (a c : Int) : or32 a c = or32 c a := by unfold or32; rw [BitVec.or_comm]
theorem writes_of {op : Int} (h1 : 1 ≤ op) (h67 : op ≤ 67) : writesP op = !(decide (classP op = 2) || (decide (classP op = 5) || (decide (57 ≤ op) && decide (op ≤ 61)))) := by
  have h := rng_all tab1 h1 h67
  simp only [Bool.and_eq_true, decide_eq_true_eq] at h
  rw [show ((op.toNat - 1 + 1 : Nat) : Int) = op by omega] at h
  rw [h.2.2, show decide (57 ≤ op.toNat - 1 + 1) = decide (57 ≤ op) by rw [decide_eq_decide]; omega, show decide (op.toNat - 1 + 1 ≤ 61) = decide (op ≤ 61) by rw [decide_eq_decide]; omega]
theorem class7 {op : Int} (h1 : 1 ≤ op) (h67 : op ≤ 67) : classP op = 7 ↔ 57 ≤ op := by
  have h := rng_all tab3 h1 h67
  simp only [Bool.and_eq_true, decide_eq_true_eq] at h
  rw [show ((op.toNat - 1 + 1 : Nat) : Int) = op by omega] at h
  exact h.2.trans (by omega)
theorem class_mem {op : Int} (h1 : 1 ≤ op) (h67 : op ≤ 67) : (classP op = 4 ∨ classP op = 5 ∨ classP op = 6) ↔ alu.sizeF op ≠ 0 := by
  have h := rng_all tab3 h1 h67
  simp only [Bool.and_eq_true, decide_eq_true_eq] at h
  rw [show ((op.toNat - 1 + 1 : Nat) : Int) = op by omega] at h
  exact h.1
theorem st_back {x : Int} (h : isSt x) : or32 (and32 (x / 16) 8) 128 = and32 (or32 (and32 x 128 / 16) 128) 136 := by
  rcases h with rfl | rfl | rfl | rfl <;> decide +kernel
theorem at_none (hR : S.R.Ok) {n : Int} (h : maskOk n = false) : S.R.at n = 0 := by
  unfold RS.at
  cases e : S.R.csr n with
  | none => rfl
  | some v => have := hR.dom n v e; rw [h] at this; cases this
/-! ### control registers -/
theorem rcsr_any (hA : (refA b cp cc S).at_ W) (ho : S.Ok) (n : Int) : Calls Tryz.prog 71 #[.pointer (some ⟨b, 0, none⟩), .int .i64 n] W fun e w => e = .returned (.tuple #[.int .u32 (S.R.get n), .bool (RS.has n)]) ∧ w = W := by
  have H := St.begin hA
  have h32 := ho.x32
  have key : ∀ m : Int, n = m → maskOk m = true → m ≠ 3074 → m ≠ 3860 → Ending.returned (.tuple #[.int .u32 (S.R.at m), .bool true]) = Ending.returned (.tuple #[.int .u32 (S.R.get n), .bool (RS.has n)]) ∧ W = W := by
    rintro m rfl hm h1 h2
    refine ⟨?_, rfl⟩
    unfold RS.get RS.has
    rw [if_neg h1, if_neg h2, hm, Bool.or_true, Bool.or_true]
  refine vc71 b 0 n (split_of (fun q => ⟨_, rt_ld H h32 2 rfl, key 768 (beq_i q) rfl (by decide) (by decide)⟩) fun q => split_of (fun q2 => ⟨_, rt_ld H h32 3 rfl, key 772 (beq_i q2) rfl (by decide) (by decide)⟩) fun q2 => split_of (fun q3 => ⟨_, rt_ld H h32 4 rfl, key 773 (beq_i q3) rfl (by decide) (by decide)⟩) fun q3 =>
    split_of (fun q4 => ⟨_, rt_ld H h32 5 rfl, key 832 (beq_i q4) rfl (by decide) (by decide)⟩) fun q4 => split_of (fun q5 => ⟨_, rt_ld H h32 6 rfl, key 833 (beq_i q5) rfl (by decide) (by decide)⟩) fun q5 => split_of (fun q6 => ⟨_, rt_ld H h32 7 rfl, key 834 (beq_i q6) rfl (by decide) (by decide)⟩) fun q6 => split_of (fun q7 => ⟨_, rt_ld H h32 8 rfl, key 835 (beq_i q7) rfl (by decide) (by decide)⟩) fun q7 => split_of (fun q8 => ⟨_, rt_ld H h32 1 rfl, ?_⟩) fun q8 => split_of (fun q9 => ⟨_, rnb_ld H, ?_⟩) fun q9 => ?_)
  · rintro z rfl
    rw [show IntKind.wrap .u32 S.R.ret = S.R.ret from wr_id ho.R.ret, beq_i q8]
    exact ⟨rfl, rfl⟩
  · rintro z rfl
    rw [show IntKind.wrap .u32 S.R.hart = S.R.hart from wr_id ho.R.hart, beq_i q9]
    exact ⟨rfl, rfl⟩
  · have hm : maskOk n = false := decide_eq_false (by
      have := bne_i q; have := bne_i q2; have := bne_i q3; have := bne_i q4; have := bne_i q5; have := bne_i q6; have := bne_i q7
      rintro (h | h | h | h | h | h | h) <;> omega)
    refine ⟨?_, rfl⟩
    unfold RS.get RS.has
    rw [if_neg (bne_i q8), if_neg (bne_i q9), at_none ho.R hm, hm, decide_eq_false (bne_i q8), decide_eq_false (bne_i q9)]
    rfl
theorem rset_any (hA : (refA b cp cc S).at_ W) (h32 : S.x.length = 32) {n v : Int} (hm : maskOk n = true) (hv : U32 v) : Calls Tryz.prog 89 #[.pointer (some ⟨b, 0, none⟩), .int .i64 n, .int .u32 v] W fun e w => e = .returned (.tuple #[]) ∧ Sep.Post (refA b cp cc S) W (refA b cp cc { S with R := S.R.set n v }) w := by
  have H := St.begin hA
  have e4 : IntKind.wrap .u32 (v - Int.tmod v 4) = and32 v 4294967292 := by
    rw [Int.tmod_eq_emod_of_nonneg hv.1, and_fffc hv]
    obtain ⟨a, c⟩ := hv
    exact w32 (by omega) (by omega)
  refine vc89 b 0 n v (split_of (fun q => ?_) fun q => split_of (fun q2 => ?_) fun q2 => split_of (fun q3 => ?_) fun q3 => split_of (fun q4 => ?_) fun q4 => split_of (fun q5 => ?_) fun q5 => split_of (fun q6 => ?_) fun q6 => split_of (fun q7 => ?_) fun q7 => ?_)
  · have q := beq_i q; subst q
    rintro z rfl
    exact rt_st H h32 2 (by decide) _ { S with R := S.R.set 768 v } rfl rfl rfl rfl rfl (tail_set S 768 v 2 (by omega)) fun w2 H => ⟨rfl, H.post 0 rfl⟩
  · have q2 := beq_i q2; subst q2
    rintro z rfl
    exact rt_st H h32 3 (by decide) _ { S with R := S.R.set 772 v } rfl rfl rfl rfl rfl (tail_set S 772 v 3 (by omega)) fun w2 H => ⟨rfl, H.post 0 rfl⟩
  · have q3 := beq_i q3; subst q3
    refine ⟨by decide, ?_⟩
    rintro z rfl z2 rfl
    rw [e4]
    exact rt_st H h32 4 (by decide) _ { S with R := S.R.set 773 v } rfl rfl rfl rfl rfl (tail_set S 773 v 4 (by omega)) fun w2 H => ⟨rfl, H.post 0 rfl⟩
  · have q4 := beq_i q4; subst q4
    exact rt_st H h32 5 (by decide) _ { S with R := S.R.set 832 v } rfl rfl rfl rfl rfl (by rw [tail_set S 832 v 5 (by omega), show maskF 832 = 4294967295 from rfl, and_ffff hv]) fun w2 H => ⟨rfl, H.post 0 rfl⟩
  · have q5 := beq_i q5; subst q5
    refine ⟨by decide, ?_⟩
    rintro z rfl z2 rfl
    rw [e4]
    exact rt_st H h32 6 (by decide) _ { S with R := S.R.set 833 v } rfl rfl rfl rfl rfl (tail_set S 833 v 6 (by omega)) fun w2 H => ⟨rfl, H.post 0 rfl⟩
  · have q6 := beq_i q6; subst q6
    exact rt_st H h32 7 (by decide) _ { S with R := S.R.set 834 v } rfl rfl rfl rfl rfl (by rw [tail_set S 834 v 7 (by omega), show maskF 834 = 4294967295 from rfl, and_ffff hv]) fun w2 H => ⟨rfl, H.post 0 rfl⟩
  · have q7 := beq_i q7; subst q7
    exact rt_st H h32 8 (by decide) _ { S with R := S.R.set 835 v } rfl rfl rfl rfl rfl (by rw [tail_set S 835 v 8 (by omega), show maskF 835 = 4294967295 from rfl, and_ffff hv]) fun w2 H => ⟨rfl, H.post 0 rfl⟩
  · exfalso
    have hm := of_decide_eq_true hm
    have := bne_i q; have := bne_i q2; have := bne_i q3; have := bne_i q4; have := bne_i q5; have := bne_i q6; have := bne_i q7
    rcases hm with h | h | h | h | h | h | h <;> omega
/-! ### system -/
theorem rsystem_any (hA : (refA b cp cc S).at_ W) (ho : S.Ok) (h2 : S.Ok2) (hh : S.halted = false) (hth : S.there = true) (hdk : decOk S.word = true) (hr : S.R.ret < 4294967295) (hc : classP S.ins.op = 7) (loaded : Int) (held : Bool) :
    Calls Tryz.prog 58 #[.pointer (some ⟨b, 0, none⟩), .agg S.ins.vs, .int .u32 S.word, .int .u32 (S.reg S.ins.rs1)] W fun e w => e = .returned (.agg (S.done loaded held).1.vs) ∧ Sep.Post (refA b cp cc S) W (refA b cp cc (S.done loaded held).2) w := by
  have h32 := ho.x32
  obtain ⟨h1, h67⟩ : 1 ≤ S.ins.op ∧ S.ins.op ≤ 67 := decF_low hdk
  have h57 : 57 ≤ S.ins.op := (class7 h1 h67).1 hc
  have hok : S.ins.Ok := decF_ok S.word
  have ha : U32 (S.reg S.ins.rs1) := ho.reg _
  obtain ⟨r1, r2, r3⟩ := row_ix h1 h67
  have hdone := done_mid (S := S) (loaded := loaded) (held := held) (by rw [hh]; decide) (by rw [hth]; decide) (by rw [hdk]; decide)
  have hm := mid_sys (S := S) (loaded := loaded) (held := held) hc
  have hr0 : 0 ≤ S.R.ret ∧ S.R.ret < 4294967295 := ⟨ho.R.ret.1, hr⟩
  have hwr := writes_of h1 h67
  rw [hc, show decide ((7 : Int) = 2) = false from rfl, show decide ((7 : Int) = 5) = false from rfl, Bool.false_or, Bool.false_or] at hwr
  have p44 := p4_4 h2 ho
  refine vc58 b 0 S.ins.vs S.word (S.reg S.ins.rs1) ((St.begin hA).al fun k w2 H => H.al fun k2 w3 H => (qrows_q w3).mono ?_)
  rintro e w4 ⟨kr, rfl, hk, hq⟩
  have H := H.quiet hq
  have H := H.pick [0, 2, 1]
  obtain ⟨c0, c1, c2, c3, c4⟩ := hk S.ins.op h1 h67
  refine ⟨_, _, _, rfl, _, H.ld 2 rfl rfl, ?_⟩
  rw [r1]
  rintro z rfl
  refine ⟨r2, adr_some ⟨#[.string (rowAt S.ins.op).1, .int .u8 (rF S.ins.op), .int .i64 (rC S.ins.op), .int .i64 (rA S.ins.op), .int .i64 (rG S.ins.op)], rfl, ?_, H.al fun k7 w5 H => H.sts0 3 rfl rfl rfl ?_ fun w6 H => ?_⟩⟩
  · rw [r3, Nat.zero_add]
    intro j v hj
    rw [add_none]
    match j, hj with
    | 0, hj => cases hj; exact c0
    | 1, hj => cases hj; exact c1
    | 2, hj => cases hj; exact c2
    | 3, hj => cases hj; exact c3
    | 4, hj => cases hj; exact c4
  · intro v hv
    simp only [List.mem_cons, List.not_mem_nil, or_false] at hv
    rcases hv with rfl | rfl | rfl | rfl | rfl <;> rfl
  have I0 : ∀ w, St W (refA b cp cc S).own w [refA b cp cc S, blk k2 noRt.vs 46, blk k S.ins.vs 92, blk k7 #[.string (rowAt S.ins.op).1, .int .u8 (rF S.ins.op), .int .i64 (rC S.ins.op), .int .i64 (rA S.ins.op), .int .i64 (rG S.ins.op)] 116] → True := fun _ _ => trivial
  refine ⟨fun w => 62 ≤ S.ins.op ∧ St W (refA b cp cc S).own w [refA b cp cc S, blk k2 noRt.vs 46, blk k S.ins.vs 92, blk k7 #[.string (rowAt S.ins.op).1, .int .u8 (rF S.ins.op), .int .i64 (rC S.ins.op), .int .i64 (rA S.ins.op), .int .i64 (rG S.ins.op)] 116], ?_, fun _ => ?_⟩
  · refine ⟨_, H.ld 3 rfl rfl, ?_⟩
    rw [is_ecall h1 h67, is_ebreak h1 h67, is_mret h1 h67, is_fence h1 h67, is_wfi h1 h67]
    refine split_of (fun t => ?_) (fun t => split_of (fun t2 => ?_) (fun t2 => split_of (fun t3 => ?_) (fun t3 => split_of (fun t4 => ?_) (fun t4 => split_of (fun t5 => ?_) (fun t5 => ?_)))))
    · rw [if_pos (of_decide_eq_true t)] at hm
      rw [hm] at hdone
      rw [hdone]
      exact r_tail (L := [_, _]) H rfl (rtrap_any (H.nth 0 rfl) ho h2 hh _ 11 (u32_lit (by decide) (by decide))) fun w8 H => ⟨rfl, H.post 0 rfl⟩
    · rw [if_neg (of_decide_eq_false t), if_pos (of_decide_eq_true t2)] at hm
      rw [hm] at hdone
      rw [hdone]
      exact ⟨_, rpc_ld H, r_tail (L := [_, _]) H rfl (rtrap_any (H.nth 0 rfl) ho h2 hh _ 3 ho.pc) fun w8 H => ⟨rfl, H.post 0 rfl⟩⟩
    · have t3' := of_decide_eq_true t3
      rw [if_neg (of_decide_eq_false t), if_neg (of_decide_eq_false t2), if_pos t3'] at hm
      rw [hm] at hdone
      have hb4 := h2.R.back.e4
      have hbu := ho.R.back.at 833
      have hw0 : writesP S.ins.op = false := by rw [hwr, t3']; rfl
      have e := fin_rdone ho (v := 0) (R := S.R.back) hbu hb4 (rd := 0) (by rw [hw0]; rfl)
      have hd2 : S.done loaded held = ({ S with R := S.R.back } : HS).rdone S.word 0 0 (S.R.back.at 833) := hdone.trans e
      rw [hd2]
      refine ⟨_, rt_ld H h32 2 rfl, by decide, ?_⟩
      rintro z rfl
      rintro z rfl
      rintro z rfl
      have e5 : IntKind.wrap .u32 ((BitVec.ofInt (IntKind.bits .u32) (IntKind.wrap .u32 ((BitVec.ofInt (IntKind.bits .u32) (Int.fdiv (S.R.at 768) (2 ^ min 4 (IntKind.bits .u32))) &&& BitVec.ofInt (IntKind.bits .u32) 8).toNat : Int)) ||| BitVec.ofInt (IntKind.bits .u32) 128).toNat : Int) = and32 (or32 (and32 (S.R.at 768) 128 / 16) 128) (maskF 768) := by
        rw [show Int.fdiv (S.R.at 768) (2 ^ min 4 (IntKind.bits .u32)) = S.R.at 768 / 16 by rw [show (2 : Int) ^ min 4 (IntKind.bits .u32) = 16 from rfl, Int.fdiv_eq_ediv_of_nonneg _ (by decide)]]
        exact st_back h2.st
      rw [e5]
      refine rt_st H h32 2 (by decide) _ { S with R := S.R.back } rfl rfl rfl rfl rfl (tail_set S 768 _ 2 (by omega)) fun w11 H => ⟨_, rt_ld H h32 6 rfl, ?_⟩
      exact r_tail (L := [_, _]) H rfl (rdone_any (H.nth 0 rfl) h32 hr0 _ 0 0 _ (by decide)) fun w8 H => ⟨rfl, H.post 0 rfl⟩
    · have t4' := of_decide_eq_true t4
      rw [if_neg (of_decide_eq_false t), if_neg (of_decide_eq_false t2), if_neg (of_decide_eq_false t3), if_pos (.inl t4')] at hm
      rw [hm] at hdone
      have hw0 : writesP S.ins.op = false := by rw [hwr, t4']; rfl
      have e := fin_rdone ho (v := 0) (R := S.R) (wr_u _) p44 (rd := 0) (by rw [hw0]; rfl)
      have hd2 : S.done loaded held = S.rdone S.word 0 0 S.p4 := hdone.trans e
      rw [hd2]
      refine ⟨_, rpc_ld H, ?_⟩
      rintro z rfl
      exact r_tail (L := [_, _]) H rfl (rdone_any (H.nth 0 rfl) h32 hr0 _ 0 0 _ (by decide)) fun w8 H => ⟨rfl, H.post 0 rfl⟩
    · have t5' := of_decide_eq_true t5
      rw [if_neg (of_decide_eq_false t), if_neg (of_decide_eq_false t2), if_neg (of_decide_eq_false t3), if_pos (.inr t5')] at hm
      rw [hm] at hdone
      have hw0 : writesP S.ins.op = false := by rw [hwr, t5']; rfl
      have e := fin_rdone ho (v := 0) (R := S.R) (wr_u _) p44 (rd := 0) (by rw [hw0]; rfl)
      have hd2 : S.done loaded held = S.rdone S.word 0 0 S.p4 := hdone.trans e
      rw [hd2]
      refine ⟨_, rpc_ld H, ?_⟩
      rintro z rfl
      exact r_tail (L := [_, _]) H rfl (rdone_any (H.nth 0 rfl) h32 hr0 _ 0 0 _ (by decide)) fun w8 H => ⟨rfl, H.post 0 rfl⟩
    · have := of_decide_eq_false t; have := of_decide_eq_false t2; have := of_decide_eq_false t3; have := of_decide_eq_false t4; have := of_decide_eq_false t5
      exact ⟨by omega, H⟩
  rintro w18 ⟨h62, H⟩
  have ht := rng_all tab4 h1 h67
  rw [show ((S.ins.op.toNat - 1 + 1 : Nat) : Int) = S.ins.op by omega, decide_eq_false (show ¬ S.ins.op.toNat - 1 + 1 < 62 by omega), Bool.false_or] at ht
  simp only [Bool.and_eq_true, decide_eq_true_eq] at ht
  obtain ⟨f68, f1, f2, f3, f0⟩ := ht
  rw [if_neg (by omega), if_neg (by omega), if_neg (by omega), if_neg (by omega)] at hm
  have hw1 : writesP S.ins.op = true := by rw [hwr, decide_eq_false (show ¬ S.ins.op ≤ 61 by omega), Bool.and_false]; rfl
  refine ⟨fun x w => x = (if 65 ≤ S.ins.op then wr S.ins.rs1 else S.reg S.ins.rs1) ∧ St W (refA b cp cc S).own w [refA b cp cc S, blk k2 noRt.vs 46, blk k S.ins.vs 92, blk k7 #[.string (rowAt S.ins.op).1, .int .u8 (rF S.ins.op), .int .i64 (rC S.ins.op), .int .i64 (rA S.ins.op), .int .i64 (rG S.ins.op)] 116], ⟨_, H.ld 3 rfl rfl, split_of (fun q => ⟨_, H.ld 2 rfl rfl, ?_⟩) (fun q => ?_)⟩, fun _ => ?_⟩
  · rintro z rfl
    have := f68.1 (beq_i q)
    exact ⟨(if_pos (by omega)).symm, H⟩
  · have q := bne_i q
    exact ⟨(if_neg (fun h => q (f68.2 (by omega)))).symm, H⟩
  rintro x w19 ⟨hx, H⟩
  refine ⟨_, H.ld 2 rfl rfl, H.callp (rcsr_any (H.nth 0 rfl) ho _) ⟨_, _, rfl, ?_⟩⟩
  refine ⟨fun y w => y = decide ((S.ins.op = 62 ∨ S.ins.op = 65) ∨ S.ins.rs1 ≠ 0) ∧ St W (refA b cp cc S).own w [refA b cp cc S, blk k2 noRt.vs 46, blk k S.ins.vs 92, blk k7 #[.string (rowAt S.ins.op).1, .int .u8 (rF S.ins.op), .int .i64 (rC S.ins.op), .int .i64 (rA S.ins.op), .int .i64 (rG S.ins.op)] 116], ⟨_, H.ld 3 rfl rfl, by decide, ?_⟩, fun _ => ?_⟩
  · rw [Int.tmod_eq_emod_of_nonneg f0.1]
    rintro z rfl
    refine split_of (fun q => ⟨(decide_eq_true (.inl (by have := f1.1 (beq_i q); omega))).symm, H⟩) (fun q => ⟨_, H.ld 2 rfl rfl, ?_, H⟩)
    have q := bne_i q
    have hn : ¬ (S.ins.op = 62 ∨ S.ins.op = 65) := fun h => q (f1.2 (by omega))
    by_cases h : S.ins.rs1 = 0
    · rw [decide_eq_false (by rintro (h5 | h5); exact hn h5; exact h5 h), h]; rfl
    · rw [decide_eq_true (.inr h)]; exact bne_iff_ne.2 h
  rintro y w21 ⟨rfl, H⟩
  have acc0 : ∀ r, S.R.access S.ins.op S.ins.rs1 S.ins.imm (S.reg S.ins.rs1) = r → S.mid loaded held = if r.2.1 then .go r.1 S.p4 r.2.2 else .trap 2 S.word := by rintro r rfl; exact hm
  have trapped : (S.R.access S.ins.op S.ins.rs1 S.ins.imm (S.reg S.ins.rs1)).2.1 = false → Calls Tryz.prog 43 #[.pointer (some ⟨b, 0, none⟩), .int .u32 S.word, .int .i64 2, .int .u32 S.word] w21 fun e w' => ∃ vs : Array Value, e = .returned (.agg vs) ∧ vs.size = 7 ∧ (∀ j : Nat, j < 7 → (∃ v, w'.cell? ⟨k2, 0 + j, none⟩ = some v) ∧ w'.frozen? ⟨k2, 0 + j, none⟩ = false) ∧ (∀ v : Value, v ∈ vs.toList → v.oneCell' = true) ∧
      ∀ w8 : World, w8 = w'.setCells k2 0 vs.toList → ∃ vs4 : Array Value, vs4.size = 7 ∧ cellsAt w8 ⟨k2, 0, none⟩ vs4 ∧ (Ending.returned (.agg vs4) = .returned (.agg (S.done loaded held).1.vs) ∧ Sep.Post (refA b cp cc S) W (refA b cp cc (S.done loaded held).2) w8) := by
    intro hf
    have h := acc0 _ rfl
    rw [hf, if_neg (by decide)] at h
    rw [h] at hdone
    rw [hdone]
    exact r_tail (L := [_, _]) H rfl (rtrap_any (H.nth 0 rfl) ho h2 hh _ 2 ho.word) fun w8 H => ⟨rfl, H.post 0 rfl⟩
  have went : ∀ (R' : RS), R'.ret = S.R.ret → (S.R.access S.ins.op S.ins.rs1 S.ins.imm (S.reg S.ins.rs1)) = (S.R.get S.ins.imm, true, R') → ∀ w28, St W (refA b cp cc S).own w28 [refA b cp cc { S with R := R' }, blk k2 noRt.vs 46, blk k S.ins.vs 92, blk k7 #[.string (rowAt S.ins.op).1, .int .u8 (rF S.ins.op), .int .i64 (rC S.ins.op), .int .i64 (rA S.ins.op), .int .i64 (rG S.ins.op)] 116] →
      ∀ w29 : World, w29 = w28.drew → ∃ z28 : Int, w29.cell? ⟨k, 0 + 1, none⟩ = some (.int .i64 z28) ∧ ∃ z29 : Int, w29.cell? ⟨b, 0 + 3, none⟩ = some (.int .u32 z29) ∧ ∀ z30 : Int, z30 = IntKind.wrap .u32 (z29 + 4) → Calls Tryz.prog 54 #[.pointer (some ⟨b, 0, none⟩), .int .u32 S.word, .int .i64 z28, .int .u32 (S.R.get S.ins.imm), .int .u32 z30] w29 fun e w' => ∃ vs : Array Value, e = .returned (.agg vs) ∧ vs.size = 7 ∧ (∀ j : Nat, j < 7 → (∃ v, w'.cell? ⟨k2, 0 + j, none⟩ = some v) ∧ w'.frozen? ⟨k2, 0 + j, none⟩ = false) ∧ (∀ v : Value, v ∈ vs.toList → v.oneCell' = true) ∧
        ∀ w8 : World, w8 = w'.setCells k2 0 vs.toList → ∃ vs4 : Array Value, vs4.size = 7 ∧ cellsAt w8 ⟨k2, 0, none⟩ vs4 ∧ (Ending.returned (.agg vs4) = .returned (.agg (S.done loaded held).1.vs) ∧ Sep.Post (refA b cp cc S) W (refA b cp cc (S.done loaded held).2) w8) := by
    intro R' hret hacc w28 H
    have h := acc0 _ hacc
    rw [if_pos rfl] at h
    rw [h] at hdone
    have e := fin_rdone ho (v := S.R.get S.ins.imm) (R := R') (wr_u _) p44 (rd := S.ins.rd) (by rw [hw1]; rfl)
    have hd2 : S.done loaded held = ({ S with R := R' } : HS).rdone S.word S.ins.rd (S.R.get S.ins.imm) S.p4 := hdone.trans e
    rw [hd2]
    refine H.dr fun w29 H => ⟨_, H.ld 2 rfl rfl, _, rpc_ld H, ?_⟩
    rintro z rfl
    exact r_tail (L := [_, _]) H rfl (rdone_any (H.nth 0 rfl) h32 (by show 0 ≤ R'.ret ∧ R'.ret < _; rw [hret]; exact hr0) _ S.ins.rd _ _ hok.1) fun w8 H => ⟨rfl, H.post 0 rfl⟩
  refine split_of (fun q => trapped ?_) (fun q => split_of (fun q2 => ?_) (fun q2 => ?_))
  · have q := not_t q
    unfold RS.access
    split
    · exact q
    · rw [if_pos (.inl q)]
  · have q := not_f q
    have q2 := of_decide_eq_true q2
    have hno : ¬ (¬ (S.ins.op = 62 ∨ S.ins.op = 65) ∧ S.ins.rs1 = 0) := by rintro ⟨h5, h6⟩; rcases q2 with h | h; exact h5 h; exact h h6
    refine ⟨_, H.ld 2 rfl rfl, by decide, ?_⟩
    have e1 : Int.fdiv S.ins.imm (2 ^ min 10 (IntKind.bits .i64)) = S.ins.imm / 1024 := by
      rw [show (2 : Int) ^ min 10 (IntKind.bits .i64) = 1024 from rfl, Int.fdiv_eq_ediv_of_nonneg _ (by decide)]
    rw [e1]
    rintro z rfl
    refine split_of (fun q3 => trapped ?_) (fun q3 => ?_)
    · unfold RS.access
      rw [if_neg hno, if_pos (.inr (beq_i q3))]
    · have q3 := bne_i q3
      have hacc : S.R.access S.ins.op S.ins.rs1 S.ins.imm (S.reg S.ins.rs1) = (S.R.get S.ins.imm, true, S.R.set S.ins.imm (S.R.newv S.ins.op S.ins.imm x)) := by
        unfold RS.access
        rw [hx]
        exact (if_neg hno).trans (if_neg (by rintro (h | h); rw [q] at h; cases h; exact q3 h))
      have hxu : U32 x := by
        rw [hx]
        split
        · exact wr_u _
        · exact ha
      have hnv : U32 (S.R.newv S.ins.op S.ins.imm x) := RS.newv_u ho.R hxu
      refine ⟨fun w => St W (refA b cp cc S).own w [refA b cp cc { S with R := S.R.set S.ins.imm (S.R.newv S.ins.op S.ins.imm x) }, blk k2 noRt.vs 46, blk k S.ins.vs 92, blk k7 #[.string (rowAt S.ins.op).1, .int .u8 (rF S.ins.op), .int .i64 (rC S.ins.op), .int .i64 (rA S.ins.op), .int .i64 (rG S.ins.op)] 116], split_of (fun _ => ?_) (fun h => absurd h (by rw [decide_eq_true q2]; decide)), fun _ => ?_⟩
      · refine ⟨fun u w => u = S.R.newv S.ins.op S.ins.imm x ∧ St W (refA b cp cc S).own w [refA b cp cc S, blk k2 noRt.vs 46, blk k S.ins.vs 92, blk k7 #[.string (rowAt S.ins.op).1, .int .u8 (rF S.ins.op), .int .i64 (rC S.ins.op), .int .i64 (rA S.ins.op), .int .i64 (rG S.ins.op)] 116], ⟨_, H.ld 3 rfl rfl, by decide, ?_⟩, fun _ => ?_⟩
        · rw [Int.tmod_eq_emod_of_nonneg f0.1]
          rintro z rfl
          refine split_of (fun t => ?_) (fun t => split_of (fun t2 => ?_) (fun t2 => ?_))
          · rintro z rfl
            refine ⟨?_, H⟩
            have := f2.1 (beq_i t)
            unfold RS.newv
            rw [if_pos (by omega), or_comm32]
            rfl
          · rintro z rfl
            refine ⟨?_, H⟩
            have := f3.1 (beq_i t2)
            unfold RS.newv
            rw [if_neg (by omega), if_pos (by omega)]
            rfl
          · refine ⟨?_, H⟩
            have t := bne_i t; have t2 := bne_i t2
            unfold RS.newv
            rw [if_neg (fun h => t (f2.2 (by omega))), if_neg (fun h => t2 (f3.2 (by omega)))]
        rintro u w26 ⟨rfl, H⟩
        exact ⟨_, H.ld 2 rfl rfl, H.call 0 rfl (rset_any (H.nth 0 rfl) h32 (RS.has_mask q q3) hnv) fun w27 H => ⟨rfl, H⟩⟩
      · intro w28 H
        exact went (S.R.set S.ins.imm (S.R.newv S.ins.op S.ins.imm x)) rfl hacc w28 H
  · have q := not_f q
    have q2 := of_decide_eq_false q2
    have hacc : S.R.access S.ins.op S.ins.rs1 S.ins.imm (S.reg S.ins.rs1) = (S.R.get S.ins.imm, true, S.R) := by
      unfold RS.access
      rw [if_pos ⟨fun h => q2 (.inl h), Classical.not_not.1 (fun h => q2 (.inr h))⟩, q]
    refine ⟨fun w => St W (refA b cp cc S).own w [refA b cp cc S, blk k2 noRt.vs 46, blk k S.ins.vs 92, blk k7 #[.string (rowAt S.ins.op).1, .int .u8 (rF S.ins.op), .int .i64 (rC S.ins.op), .int .i64 (rA S.ins.op), .int .i64 (rG S.ins.op)] 116], split_of (fun h => absurd h (by rw [decide_eq_false q2]; decide)) (fun _ => H), fun _ => ?_⟩
    intro w34 H
    exact went S.R rfl hacc w34 H
end Go.Proofs.YtcpmgklhfpcaeaaGreatDoor
/- The document's hart: memory, Do, Ask, Interrupt. Conditions: the code it reads. -/
namespace Go.Proofs.YtcpmgklhfpcaeaaGreatDoor
open Go.RowKit Go.XHeap Go.Sx Go.Sep
set_option linter.unusedVariables false
set_option maxRecDepth 100000

variable {W w : World} {b cc : Nat} {cp : Option Addr} {S S' : HS} {L : List Asn} {B : Nat} {M : Nat → Prop} {W0 : World}
theorem rowsAt_blk {k : Nat} {t : TypeId} (h : Blk w k ROWS t) : RowsAt w k := by
  intro op h1 h2
  have e : (op.toNat - 1) * 5 = 5 * (op.toNat - 1) + 0 := by omega
  rw [e]
  exact ⟨h.cell' (rows_at op h1 h2 0 (by omega)), h.cell' (rows_at op h1 h2 1 (by omega)), h.cell' (rows_at op h1 h2 2 (by omega)), h.cell' (rows_at op h1 h2 3 (by omega)), h.cell' (rows_at op h1 h2 4 (by omega))⟩
theorem qrows_n (w : World) : Calls Tryz.prog 57 #[] w fun e w' => ∃ k : Nat, e = .returned (.slice (some ⟨k, 0, none⟩) 67 67) ∧ Sep.Post emp w (blk k ROWS 116) w' := by
  refine (rows_any w).mono ?_
  rintro e w' ⟨rfl, rfl⟩
  exact ⟨_, rfl, ((St.nil w).alloc ROWS 116).new 0 rfl⟩
theorem rmemory_any (hA : (refA b cp cc S).at_ W) (ho : S.Ok) (h2 : S.Ok2) (hh : S.halted = false) (hth : S.there = true) (hdk : decOk S.word = true) (hr : S.R.ret < 4294967295)
    (n0 : ¬ (classP S.ins.op = 0 ∨ classP S.ins.op = 1)) (n2 : ¬ classP S.ins.op = 2) (n3 : ¬ classP S.ins.op = 3) (n7 : ¬ classP S.ins.op = 7) (hms : alu.sizeF S.ins.op ≠ 0) {loaded : Int} (hl : U32 loaded) (held : Bool) :
    Calls Tryz.prog 59 #[.pointer (some ⟨b, 0, none⟩), .agg S.ins.vs, .int .u32 S.word, .int .u32 loaded, .bool held] W fun e w => e = .returned (.agg (S.done loaded held).1.vs) ∧ Sep.Post (refA b cp cc S) W (refA b cp cc (S.done loaded held).2) w := by
  have h32 := ho.x32
  obtain ⟨h1, h67⟩ : 1 ≤ S.ins.op ∧ S.ins.op ≤ 67 := decF_low hdk
  have hok : S.ins.Ok := decF_ok S.word
  have ha : U32 (S.reg S.ins.rs1) := ho.reg _
  obtain ⟨r1, r2, r3⟩ := row_ix h1 h67
  have hdone := done_mid (S := S) (loaded := loaded) (held := held) (by rw [hh]; decide) (by rw [hth]; decide) (by rw [hdk]; decide)
  have hm := mid_mem (S := S) (loaded := loaded) (held := held) n0 n2 n3 n7
  have hr0 : 0 ≤ S.R.ret ∧ S.R.ret < 4294967295 := ⟨ho.R.ret.1, hr⟩
  have hwr := writes_of h1 h67
  have h57 : ¬ 57 ≤ S.ins.op := fun h => n7 ((class7 h1 h67).2 h)
  rw [decide_eq_false n2, decide_eq_false h57, Bool.false_and, Bool.false_or, Bool.or_false] at hwr
  have p44 := p4_4 h2 ho
  have hwu : U32 (whereF S.ins.op S.ins.imm (S.reg S.ins.rs1)) := whereF_u ha
  refine vc59 b 0 S.ins.vs S.word loaded held ((St.begin hA).al fun k w2 H => H.al fun k2 w3 H => ?_)
  have H := H.pick [0, 2, 1]
  refine ⟨_, rfl, H.cells 2 rfl, H.call 0 rfl (rwhere_any (H.nth 0 rfl) h32 S.ins hok h1 h67) fun w4 H => ⟨_, rfl, _, H.ld 2 rfl rfl, H.call 0 rfl (rfault_any (H.nth 0 rfl) ⟨ho.data.1, ho.data.2.1⟩ h1 h67 hms hwu) fun w5 H => ⟨_, rfl, split_of (fun t => ?_) (fun t => ?_)⟩⟩⟩
  · rw [if_pos (bne_t t)] at hm
    rw [hm] at hdone
    rw [hdone]
    exact r_tail (L := [_]) H rfl (rtrap_any (H.nth 0 rfl) ho h2 hh _ _ hwu) fun w8 H => ⟨rfl, H.post 0 rfl⟩
  rw [if_neg (fun h => h (bne_f t))] at hm
  refine ⟨_, H.ld 2 rfl rfl, H.callq (qclass_q S.ins.op h1 h67 _) fun w8 H => ⟨_, rfl, H.calln (qrows_n w8) fun kr w9 H => ⟨_, _, _, rfl, _, H.ld 2 rfl rfl, H.callq (qwiden_q _ hl _) fun w10 H => ⟨_, rfl, ?_⟩⟩⟩⟩
  refine ⟨fun x w => x = (if S.ins.op = 47 then (if held then 0 else 1) else alu.widenF S.ins.op loaded) ∧ St W (refA b cp cc S).own w [refA b cp cc S, blk k2 noRt.vs 46, blk k S.ins.vs 92, blk kr ROWS 116], ⟨_, H.ld 2 rfl rfl, ?_⟩, fun _ => ?_⟩
  · rw [r1]
    rintro z rfl
    refine ⟨r2, adr_some ⟨(rowAt S.ins.op).1, ?_, ?_⟩⟩
    · rw [r3, Nat.zero_add]; exact (rowsAt_blk (H.blk 3 rfl) S.ins.op h1 h67).1
    rw [is_scw h1 h67]
    refine split_of (fun t => split_of (fun t2 => ⟨?_, H⟩) (fun t2 => ⟨?_, H⟩)) (fun t => ⟨?_, H⟩)
    · rw [if_pos (of_decide_eq_true t), if_pos t2]
    · rw [if_pos (of_decide_eq_true t), if_neg (by rw [t2]; decide)]
    · rw [if_neg (of_decide_eq_false t)]
  rintro v w11 ⟨hv, H⟩
  rw [← hv] at hm
  rw [hm] at hdone
  refine split_of (fun t => ⟨_, rpc_ld H, ?_⟩) (fun t => H.dr fun w14 H => ⟨_, H.ld 2 rfl rfl, _, rpc_ld H, ?_⟩)
  · rintro z rfl
    have e := fin_rdone ho (v := v) (R := S.R) (wr_u _) p44 (rd := 0) (by rw [hwr, decide_eq_true (beq_i t)]; rfl)
    have hd2 : S.done loaded held = S.rdone S.word 0 v S.p4 := hdone.trans e
    have hd3 : S.rdone S.word 0 v S.p4 = S.rdone S.word 0 0 S.p4 := by unfold HS.rdone; rw [if_pos rfl, if_pos rfl]
    rw [hd2, hd3]
    exact r_tail (L := [_, _]) H rfl (rdone_any (H.nth 0 rfl) h32 hr0 _ 0 0 _ (by decide)) fun w8 H => ⟨rfl, H.post 0 rfl⟩
  · rintro z rfl
    have e := fin_rdone ho (v := v) (R := S.R) (wr_u _) p44 (rd := S.ins.rd) (by rw [hwr, decide_eq_false (bne_i t)]; rfl)
    have hd2 : S.done loaded held = S.rdone S.word S.ins.rd v S.p4 := hdone.trans e
    rw [hd2]
    exact r_tail (L := [_, _]) H rfl (rdone_any (H.nth 0 rfl) h32 hr0 _ S.ins.rd v _ hok.1) fun w8 H => ⟨rfl, H.post 0 rfl⟩
theorem tab5 : ((List.range 67).all fun i => decide (0 ≤ classP (i + 1 : Nat) ∧ classP (i + 1 : Nat) ≤ 7)) = true := by kernel_rfl
theorem class_rng {op : Int} (h1 : 1 ≤ op) (h67 : op ≤ 67) : 0 ≤ classP op ∧ classP op ≤ 7 := by
  have h := rng_all tab5 h1 h67
  rw [show ((op.toNat - 1 + 1 : Nat) : Int) = op by omega] at h
  exact of_decide_eq_true h
/-! ### Do -/
theorem rdo_any (hA : (refA b cp cc S).at_ W) (ho : S.Ok) (h2 : S.Ok2) (hs : Src B W cp S.code) (hi : ∀ k, (refA b cp cc S).own k → B ≤ k) (hr : S.R.ret < 4294967295) {loaded : Int} (hl : U32 loaded) (held : Bool) :
    Calls Tryz.prog 14 #[.pointer (some ⟨b, 0, none⟩), .int .u32 loaded, .bool held] W fun e w => e = .returned (.agg (S.done loaded held).1.vs) ∧ Sep.Post (refA b cp cc S) W (refA b cp cc (S.done loaded held).2) w := by
  have h32 := ho.x32
  have hr0 : 0 ≤ S.R.ret ∧ S.R.ret < 4294967295 := ⟨ho.R.ret.1, hr⟩
  obtain ⟨p0, p1⟩ := ho.pc
  refine vc14 b 0 loaded held ((St.begin hA).al fun k w2 H => ⟨_, rt_ld H h32 0 rfl, split_of (fun q => ?_) (fun q => ?_)⟩)
  · refine H.dr fun w3 H => ⟨_, rpc_ld H, _, rpc_ld H, ?_⟩
    rintro vs rfl
    have e : S.done loaded held = (⟨S.pc, 0, 0, 0, -1, 0, S.pc⟩, S) := by unfold HS.done; exact if_pos q
    rw [e]
    exact H.sts0 1 rfl rfl rfl (rt_one ⟨S.pc, 0, 0, 0, -1, 0, S.pc⟩) fun w4 H => ⟨_, rfl, H.cells 1 rfl, rfl, H.post 0 rfl⟩
  have q' : ¬ S.halted = true := by rw [q]; decide
  refine H.call 0 rfl (rfetch_any (H.nth 0 rfl) ho (hs.st H hi) hi) fun w5 H => ⟨_, _, _, rfl, H.al fun k3 w6 H => H.sts0 2 rfl rfl rfl (ins_one S.ins) fun w7 H => ⟨_, rpc_ld H, by decide, ?_⟩⟩
  have e1 : IntKind.wrap .u32 (Int.tdiv S.pc 4) = S.pc / 4 := by
    rw [Int.tdiv_eq_ediv_of_nonneg p0]
    exact w32 (by omega) (by omega)
  rw [e1]
  rintro z rfl
  rw [w64 (by omega) (by omega)]
  rintro z rfl
  refine ⟨_, _, _, rcd_ld H, H.drN fun w8 H => split_of (fun q2 => ?_) (fun q2 => ?_)⟩
  · have q2 := of_decide_eq_true q2
    have ht : S.there = false := decide_eq_false (by omega)
    have e : S.done loaded held = S.trap 0 1 S.pc := by unfold HS.done; exact (if_neg q').trans (if_pos ht)
    rw [e]
    exact ⟨_, rpc_ld H, r_tail (L := [_]) H rfl (rtrap_any (H.nth 0 rfl) ho h2 q 0 1 ho.pc) fun w9 H => ⟨rfl, H.post 0 rfl⟩⟩
  have q2 := of_decide_eq_false q2
  have ht : S.there = true := decide_eq_true (by omega)
  rw [ht, Bool.true_and]
  refine split_of (fun q3 => ?_) (fun q3 => ?_)
  · have q3 := not_t q3
    have e : S.done loaded held = S.trap S.word 2 S.word := by unfold HS.done; exact ((if_neg q').trans (if_neg (by rw [ht]; decide))).trans (if_pos q3)
    rw [e]
    exact r_tail (L := [_]) H rfl (rtrap_any (H.nth 0 rfl) ho h2 q _ 2 ho.word) fun w9 H => ⟨rfl, H.post 0 rfl⟩
  have hdk := not_f q3
  obtain ⟨h1, h67⟩ : 1 ≤ S.ins.op ∧ S.ins.op ≤ 67 := decF_low hdk
  have hok : S.ins.Ok := decF_ok S.word
  have ha : U32 (S.reg S.ins.rs1) := ho.reg _
  have hb : U32 (S.reg S.ins.rs2) := ho.reg _
  have hdone := done_mid (S := S) (loaded := loaded) (held := held) q' (by rw [ht]; decide) (by rw [hdk]; decide)
  have hwr := writes_of h1 h67
  have p44 := p4_4 h2 ho
  obtain ⟨r1, r2, r3⟩ := row_ix h1 h67
  refine ⟨_, H.ld 2 rfl rfl, hok.2.1, _, rx_ld H h32 _ hok.2.1.1 hok.2.1.2, H.drN fun w13 H => ⟨_, H.ld 2 rfl rfl, hok.2.2, _, rx_ld H h32 _ hok.2.2.1 hok.2.2.2, H.drN fun w14 H => ⟨_, H.ld 2 rfl rfl, H.callq (qclass_q S.ins.op h1 h67 _) fun w15 H => ⟨_, rfl, ?_⟩⟩⟩⟩
  refine ⟨fun x w => x = decide (classP S.ins.op = 0 ∨ classP S.ins.op = 1) ∧ St W (refA b cp cc S).own w [refA b cp cc S, blk k noRt.vs 46, blk k3 S.ins.vs 92], split_of (fun t => ⟨(decide_eq_true (.inl (beq_i t))).symm, H⟩) (fun t => ⟨?_, H⟩), fun _ => ?_⟩
  · have t := bne_i t
    by_cases h : classP S.ins.op = 1
    · rw [decide_eq_true (.inr h)]; exact beq_iff_eq.2 h
    · rw [decide_eq_false (by omega)]; exact beq_eq_false_iff_ne.2 h
  rintro x w16 ⟨rfl, H⟩
  refine split_of (fun t => ?_) (fun t => ?_)
  · have t := of_decide_eq_true t
    have hm := mid_alu (S := S) (loaded := loaded) (held := held) t
    rw [hm] at hdone
    have h57 : ¬ 57 ≤ S.ins.op := fun h => by have := (class7 h1 h67).2 h; omega
    have hw1 : writesP S.ins.op = true := by rw [hwr, decide_eq_false (show ¬ classP S.ins.op = 2 by omega), decide_eq_false (show ¬ classP S.ins.op = 5 by omega), decide_eq_false h57]; rfl
    refine ⟨_, rfl, H.cells 2 rfl, H.call 0 rfl (rcomputed_any (H.nth 0 rfl) ho S.ins h1 h67 t ha hb) fun w17 H => ⟨_, rfl, H.dr fun w18 H => ⟨_, H.ld 2 rfl rfl, _, rpc_ld H, ?_⟩⟩⟩
    rintro z rfl
    have e := fin_rdone ho (R := S.R) (v := alu.execF S.ins.op (operF S.ins.op S.ins.imm S.pc (S.reg S.ins.rs1) (S.reg S.ins.rs2)).1 (operF S.ins.op S.ins.imm S.pc (S.reg S.ins.rs1) (S.reg S.ins.rs2)).2) (wr_u _) p44 (rd := S.ins.rd) (by rw [hw1]; rfl)
    rw [hdone.trans e]
    exact r_tail (L := [_]) H rfl (rdone_any (H.nth 0 rfl) h32 hr0 _ S.ins.rd _ _ hok.1) fun w8 H => ⟨rfl, H.post 0 rfl⟩
  have n0 := of_decide_eq_false t
  refine split_of (fun t2 => ?_) (fun t2 => split_of (fun t3 => ?_) (fun t3 => split_of (fun t7 => ?_) (fun t7 => ?_)))
  · have t2 := beq_i t2
    have hm := mid_branch (S := S) (loaded := loaded) (held := held) n0 t2
    have hw0 : writesP S.ins.op = false := by rw [hwr, decide_eq_true t2]; rfl
    have h4 : S.ins.op ≠ 4 := fun h => by rw [h] at t2; exact absurd t2 (by decide +kernel)
    refine ⟨_, H.ld 2 rfl rfl, H.callq (qtaken_q _ ha hb _) fun w21 H => ⟨_, rfl, split_of (fun t => ?_) (fun t => ?_)⟩⟩
    · rw [if_neg (by rw [not_t t]; decide)] at hm
      rw [hm] at hdone
      have e := fin_rdone ho (R := S.R) (v := 0) (wr_u _) p44 (rd := 0) (by rw [hw0]; rfl)
      rw [hdone.trans e]
      refine ⟨_, rpc_ld H, ?_⟩
      rintro z rfl
      exact r_tail (L := [_]) H rfl (rdone_any (H.nth 0 rfl) h32 hr0 _ 0 0 _ (by decide)) fun w8 H => ⟨rfl, H.post 0 rfl⟩
    · rw [if_pos (not_f t)] at hm
      rw [hm] at hdone
      have e := fin_rjump ho (v := 0) (targF_u S.ins.op S.ins.imm S.pc (S.reg S.ins.rs1)) (rd := 0) (by rw [hw0]; rfl) (.inl rfl)
      have et : targF S.ins.op S.ins.imm S.pc (S.reg S.ins.rs1) = wr (S.pc + wr S.ins.imm) := by unfold targF; exact if_neg h4
      rw [et] at e hdone
      rw [hdone.trans e]
      refine H.dr fun w24 H => ⟨_, rpc_ld H, _, H.ld 2 rfl rfl, ?_⟩
      rintro z rfl z2 rfl
      exact r_tail (L := [_]) H rfl (rjump_any (H.nth 0 rfl) ho h2 q hr _ 0 (by decide) (wr_u _)) fun w8 H => ⟨rfl, H.post 0 rfl⟩
  · have t3 := beq_i t3
    have t2 := bne_i t2
    have hm := mid_jump (S := S) (loaded := loaded) (held := held) n0 t2 t3
    rw [hm] at hdone
    have h57 : ¬ 57 ≤ S.ins.op := fun h => by have := (class7 h1 h67).2 h; omega
    have hw1 : writesP S.ins.op = true := by rw [hwr, decide_eq_false t2, decide_eq_false (show ¬ classP S.ins.op = 5 by omega), decide_eq_false h57]; rfl
    have e := fin_rjump ho (v := S.p4) (targF_u S.ins.op S.ins.imm S.pc (S.reg S.ins.rs1)) (rd := S.ins.rd) (by rw [hw1]; rfl) (.inr rfl)
    rw [hdone.trans e]
    refine ⟨_, rpc_ld H, _, H.ld 2 rfl rfl, ?_⟩
    rintro z rfl z2 rfl
    refine H.drN fun w27 H => H.calln (qrows_n w27) fun kr w28 H => ⟨_, _, _, rfl, ?_⟩
    refine ⟨fun x w => x = targF S.ins.op S.ins.imm S.pc (S.reg S.ins.rs1) ∧ St W (refA b cp cc S).own w [refA b cp cc S, blk k noRt.vs 46, blk k3 S.ins.vs 92], ⟨_, H.ld 2 rfl rfl, ?_⟩, fun _ => ?_⟩
    · rw [r1]
      rintro z rfl
      refine ⟨r2, adr_some ⟨(rowAt S.ins.op).1, ?_, ?_⟩⟩
      · rw [r3, Nat.zero_add]; exact (rowsAt_blk (H.blk 3 rfl) S.ins.op h1 h67).1
      rw [is_jalr h1 h67]
      refine split_of (fun t => ?_) (fun t => ⟨?_, H.pick [0, 1, 2]⟩)
      · refine ⟨_, H.ld 2 rfl rfl, ?_⟩
        rintro z rfl z2 rfl
        refine ⟨by decide, ?_⟩
        rintro z rfl
        refine ⟨by decide, ?_⟩
        rintro z rfl
        refine ⟨?_, H.pick [0, 1, 2]⟩
        unfold targF
        rw [if_pos (of_decide_eq_true t), andn_1 (wr_u _)]
        have hu := wr_u (S.reg S.ins.rs1 + wr S.ins.imm)
        show IntKind.wrap .u32 (Int.fdiv (wr (S.reg S.ins.rs1 + wr S.ins.imm)) (2 ^ min 1 (IntKind.bits .u32)) * 2 ^ min 1 (IntKind.bits .u32)) = _
        rw [show (2 : Int) ^ min 1 (IntKind.bits .u32) = 2 from rfl, Int.fdiv_eq_ediv_of_nonneg _ (by decide)]
        obtain ⟨a, c⟩ := hu
        exact w32 (by omega) (by omega)
      · unfold targF
        rw [if_neg (of_decide_eq_false t)]
        rfl
    rintro x w29 ⟨rfl, H⟩
    exact ⟨_, H.ld 2 rfl rfl, r_tail (L := [_]) H rfl (rjump_any (H.nth 0 rfl) ho h2 q hr _ S.ins.rd hok.1 (targF_u _ _ _ _)) fun w8 H => ⟨rfl, H.post 0 rfl⟩⟩
  · have t7 := beq_i t7
    exact ⟨_, rfl, H.cells 2 rfl, r_tail (L := [_]) H rfl (rsystem_any (H.nth 0 rfl) ho h2 q ht hdk hr t7 loaded held) fun w8 H => ⟨rfl, H.post 0 rfl⟩⟩
  · have hms : alu.sizeF S.ins.op ≠ 0 := by
      refine (class_mem h1 h67).1 ?_
      have := bne_i t2; have := bne_i t3; have := bne_i t7
      have hcl : 0 ≤ classP S.ins.op ∧ classP S.ins.op ≤ 7 := class_rng h1 h67
      omega
    exact ⟨_, rfl, H.cells 2 rfl, r_tail (L := [_]) H rfl (rmemory_any (H.nth 0 rfl) ho h2 q ht hdk hr n0 (bne_i t2) (bne_i t3) (bne_i t7) hms hl held) fun w8 H => ⟨rfl, H.post 0 rfl⟩⟩
/-! ### Interrupt, Ask -/
theorem rinterrupt_any (hA : (refA b cp cc S).at_ W) (ho : S.Ok) (h2 : S.Ok2) : Calls Tryz.prog 11 #[.pointer (some ⟨b, 0, none⟩)] W fun e w => e = .returned (.tuple #[.agg S.intr.1.1.vs, .bool S.intr.1.2]) ∧ Sep.Post (refA b cp cc S) W (refA b cp cc S.intr.2) w := by
  have h32 := ho.x32
  have no : S.irq = false → S.intr = ((noRt, false), S) := fun h => by unfold HS.intr; rw [h]; rfl
  refine vc11 b 0 ((St.begin hA).al fun k w2 H => ⟨_, rt_ld H h32 0 rfl, split_of (fun q => ?_) (fun q => ⟨_, rt_ld H h32 2 rfl, ?_⟩)⟩)
  · rw [no (by unfold HS.irq; rw [q]; rfl)]
    rintro vs rfl
    exact H.sts0 1 rfl rfl rfl (rt_one noRt) fun w3 H => ⟨_, rfl, H.cells 1 rfl, rfl, H.post 0 rfl⟩
  rintro z rfl
  have hu : U32 (and32 (S.R.at 768) 8) := and32_u _ _
  have hv : U32 (S.R.at 772) := ho.R.at _
  refine split_of (fun q2 => ?_) (fun q2 => ⟨_, rt_ld H h32 3 rfl, split_of (fun q3 => ?_) (fun q3 => ?_)⟩)
  · have q2 : and32 (S.R.at 768) 8 = 0 := beq_i q2
    rw [no (by unfold HS.irq RS.inter; rw [q2]; simp)]
    rintro vs rfl
    exact H.sts0 1 rfl rfl rfl (rt_one noRt) fun w3 H => ⟨_, rfl, H.cells 1 rfl, rfl, H.post 0 rfl⟩
  · have q3 := beq_i q3
    rw [no (by unfold HS.irq RS.inter; rw [q3]; simp)]
    rintro vs rfl
    exact H.sts0 1 rfl rfl rfl (rt_one noRt) fun w3 H => ⟨_, rfl, H.cells 1 rfl, rfl, H.post 0 rfl⟩
  · have q2 : and32 (S.R.at 768) 8 ≠ 0 := bne_i q2
    have q3 := bne_i q3
    have e : S.intr = (((S.trap 0 2147483659 0).1, true), (S.trap 0 2147483659 0).2) := by
      unfold HS.intr HS.irq RS.inter
      rw [q, decide_eq_true (show 0 < and32 (S.R.at 768) 8 by have := hu.1; omega), decide_eq_true (show 0 < S.R.at 772 by have := hv.1; omega)]
      rfl
    rw [e]
    exact H.call 0 rfl (rtrap_any (H.nth 0 rfl) ho h2 q 0 2147483659 (u32_lit (by decide) (by decide))) fun w6 H => ⟨_, rfl, H.al fun k5 w7 H => H.sts0 2 rfl rfl rfl (rt_one _) fun w8 H => ⟨_, rfl, H.cells 2 rfl, H.sts0 1 rfl rfl rfl (rt_one _) fun w9 H => ⟨_, rfl, H.cells 1 rfl, rfl, H.post 0 rfl⟩⟩⟩
theorem cut_eq {n v : Int} (hn : n = 1 ∨ n = 2 ∨ n = 4) (hv : U32 v) : cutF n v = if n < 4 then v % (2 ^ (8 * n).toNat) else v := by
  obtain ⟨a, c⟩ := hv
  unfold cutF wr
  rcases hn with rfl | rfl | rfl
  · rw [w32m, if_pos (by decide), show ((32 : Int) - 8 * 1).toNat = 24 from rfl, show ((8 : Int) * 1).toNat = 8 from rfl]; omega
  · rw [w32m, if_pos (by decide), show ((32 : Int) - 8 * 2).toNat = 16 from rfl, show ((8 : Int) * 2).toNat = 16 from rfl]; omega
  · rw [w32m, if_neg (by decide), show ((32 : Int) - 8 * 4).toNat = 0 from rfl]; omega
theorem rask_any (hA : (refA b cp cc S).at_ W) (ho : S.Ok) (hs : Src B W cp S.code) (hi : ∀ k, (refA b cp cc S).own k → B ≤ k) :
    Calls Tryz.prog 9 #[.pointer (some ⟨b, 0, none⟩)] W fun e w => e = .returned (.agg S.ask.vs) ∧ Sep.Post (refA b cp cc S) W (refA b cp cc S) w := by
  have h32 := ho.x32
  have none_ : ∀ {k : Nat} {L : List Asn} {w : World}, St W (refA b cp cc S).own w (refA b cp cc S :: blk k noRq.vs 40 :: L) → S.asks = false → ∀ vs : Array Value, vs = noRq.vs → vs.size = 4 ∧ (∀ j : Nat, j < 4 → (∃ v, w.cell? ⟨k, 0 + j, none⟩ = some v) ∧ w.frozen? ⟨k, 0 + j, none⟩ = false) ∧ (∀ v : Value, v ∈ vs.toList → v.oneCell' = true) ∧
      ∀ w9 : World, w9 = w.setCells k 0 vs.toList → ∃ vs3 : Array Value, vs3.size = 4 ∧ cellsAt w9 ⟨k, 0, none⟩ vs3 ∧ (Ending.returned (.agg vs3) = .returned (.agg S.ask.vs) ∧ Sep.Post (refA b cp cc S) W (refA b cp cc S) w9) := by
    rintro k L w H hn vs rfl
    refine H.sts0 1 rfl rfl rfl (rq_one noRq) fun w3 H => ⟨_, rfl, H.cells 1 rfl, ?_, H.post 0 rfl⟩
    rw [show S.ask = noRq by unfold HS.ask; rw [hn]; rfl]
  refine vc9 b 0 ((St.begin hA).al fun k w2 H => H.call 0 rfl (rfetch_any (H.nth 0 rfl) ho (hs.st H hi) hi) fun w3 H => ⟨_, _, _, rfl, H.al fun k2 w4 H => H.sts0 2 rfl rfl rfl (ins_one S.ins) fun w5 H => split_of (fun q => ?_) (fun q => ⟨_, rt_ld H h32 0 rfl, split_of (fun q2 => ?_) (fun q2 => ?_)⟩)⟩)
  · refine none_ H ?_
    have q := not_t q
    unfold HS.asks
    cases ht : S.there with
    | false => rfl
    | true => rw [ht, Bool.true_and] at q; rw [q]; rfl
  · refine none_ H ?_
    unfold HS.asks
    rw [q2]; simp
  have q := not_f q
  have ht : S.there = true := (Bool.and_eq_true_iff.1 q).1
  have hdk : decOk S.word = true := (Bool.and_eq_true_iff.1 q).2
  obtain ⟨h1, h67⟩ : 1 ≤ S.ins.op ∧ S.ins.op ≤ 67 := decF_low hdk
  have hok : S.ins.Ok := decF_ok S.word
  have hb : U32 (S.reg S.ins.rs2) := ho.reg _
  refine ⟨_, H.ld 2 rfl rfl, H.callq (qsize_q _ _) fun w8 H => ⟨_, rfl, split_of (fun q3 => ?_) (fun q3 => ?_)⟩⟩
  · refine none_ H ?_
    unfold HS.asks
    rw [beq_i q3]; simp
  have hn : alu.sizeF S.ins.op ≠ 0 := bne_i q3
  have hwu : U32 S.addr := whereF_u (ho.reg _)
  refine ⟨_, rfl, H.cells 2 rfl, H.call 0 rfl (rwhere_any (H.nth 0 rfl) h32 S.ins hok h1 h67) fun w10 H => ⟨_, rfl, _, H.ld 2 rfl rfl, H.call 0 rfl (rfault_any (H.nth 0 rfl) ⟨ho.data.1, ho.data.2.1⟩ h1 h67 hn hwu) fun w11 H => ⟨_, rfl, split_of (fun q4 => ?_) (fun q4 => ?_)⟩⟩⟩
  · refine none_ H ?_
    have : reachF S.ins.op S.addr S.data ≠ -1 := bne_t q4
    unfold HS.asks
    rw [decide_eq_false this]; simp
  have q4 : reachF S.ins.op S.addr S.data = -1 := bne_f q4
  have hasks : S.asks = true := by unfold HS.asks; rw [ht, hdk, q2, decide_eq_true hn, decide_eq_true q4]; rfl
  have hs4 := (size_cases S.ins.op).resolve_left hn
  refine ⟨_, H.ld 2 rfl rfl, hok.2.2, _, rx_ld H h32 _ hok.2.2.1 hok.2.2.2, H.drN fun w13 H => ⟨_, H.ld 2 rfl rfl, H.callq (qclass_q S.ins.op h1 h67 _) fun w14 H => ⟨_, rfl, split_of (fun q5 => ?_) (fun q5 => ?_)⟩⟩⟩
  · have e : S.ask = ⟨S.ins.op, S.addr, alu.sizeF S.ins.op, 0⟩ := by unfold HS.ask; rw [if_pos hasks, if_pos (beq_i q5)]
    rw [e]
    generalize alu.sizeF S.ins.op = n at hs4 ⊢
    refine split_of (fun q6 => ?_) (fun q6 => ?_)
    · have q6 := of_decide_eq_true q6
      rw [w64 (by omega) (by omega)]
      rintro z rfl
      refine ⟨by omega, ?_⟩
      have e2 : IntKind.wrap .u32 (1 * 2 ^ min (8 * n).toNat (IntKind.bits .u32)) ≠ 0 := by
        rcases hs4 with rfl | rfl | rfl
        · decide +kernel
        · decide +kernel
        · omega
      rintro z rfl
      refine ⟨e2, ?_⟩
      rintro z rfl
      refine ⟨_, H.ld 2 rfl rfl, ?_⟩
      rw [show Int.tmod 0 (IntKind.wrap .u32 (1 * 2 ^ min (8 * n).toNat (IntKind.bits .u32))) = 0 from Int.zero_tmod _]
      rintro vs rfl
      exact H.sts0 1 rfl rfl rfl (rq_one ⟨S.ins.op, S.addr, n, 0⟩) fun w15 H => ⟨_, rfl, H.cells 1 rfl, rfl, H.post 0 rfl⟩
    · refine ⟨_, H.ld 2 rfl rfl, ?_⟩
      rintro vs rfl
      exact H.sts0 1 rfl rfl rfl (rq_one ⟨S.ins.op, S.addr, n, 0⟩) fun w15 H => ⟨_, rfl, H.cells 1 rfl, rfl, H.post 0 rfl⟩
  · have e : S.ask = ⟨S.ins.op, S.addr, alu.sizeF S.ins.op, cutF (alu.sizeF S.ins.op) (S.reg S.ins.rs2)⟩ := by unfold HS.ask; rw [if_pos hasks, if_neg (bne_i q5)]
    rw [e, cut_eq hs4 hb]
    generalize alu.sizeF S.ins.op = n at hs4 ⊢
    refine split_of (fun q6 => ?_) (fun q6 => ?_)
    · have q6 := of_decide_eq_true q6
      rw [if_pos q6, w64 (by omega) (by omega)]
      rintro z rfl
      refine ⟨by omega, ?_⟩
      have e2 : IntKind.wrap .u32 (1 * 2 ^ min (8 * n).toNat (IntKind.bits .u32)) = 2 ^ (8 * n).toNat ∧ (2 : Int) ^ (8 * n).toNat ≠ 0 := by
        rcases hs4 with rfl | rfl | rfl
        · decide +kernel
        · decide +kernel
        · omega
      rw [e2.1]
      rintro z rfl
      refine ⟨e2.2, ?_⟩
      rw [Int.tmod_eq_emod_of_nonneg hb.1]
      rintro z rfl
      refine ⟨_, H.ld 2 rfl rfl, ?_⟩
      rintro vs rfl
      exact H.sts0 1 rfl rfl rfl (rq_one ⟨S.ins.op, S.addr, n, S.reg S.ins.rs2 % 2 ^ (8 * n).toNat⟩) fun w15 H => ⟨_, rfl, H.cells 1 rfl, rfl, H.post 0 rfl⟩
    · have q6 := of_decide_eq_false q6
      rw [if_neg q6]
      refine ⟨_, H.ld 2 rfl rfl, ?_⟩
      rintro vs rfl
      exact H.sts0 1 rfl rfl rfl (rq_one ⟨S.ins.op, S.addr, n, S.reg S.ins.rs2⟩) fun w15 H => ⟨_, rfl, H.cells 1 rfl, rfl, H.post 0 rfl⟩
end Go.Proofs.YtcpmgklhfpcaeaaGreatDoor
