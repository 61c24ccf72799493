/- The document's hart: trap, done, jump, fetch, where, fault, computed, control registers. Conditions: the code it reads. -/
import Derived.Test.YtcpmgklhfpcaeaaGreatDoorRefA
namespace Go.Proofs.YtcpmgklhfpcaeaaGreatDoor
open Go.RowKit Go.XHeap Go.Sx Go.Sep
set_option linter.unusedVariables false
set_option maxRecDepth 100000

variable {W w : World} {b cc : Nat} {cp : Option Addr} {S S' : HS} {L : List Asn} {B : Nat} {M : Nat → Prop} {W0 : World}
theorem tail_set (S : HS) (n v : Int) (j : Nat) (h : (n = 768 ∧ j = 2) ∨ (n = 772 ∧ j = 3) ∨ (n = 773 ∧ j = 4) ∨ (n = 832 ∧ j = 5) ∨ (n = 833 ∧ j = 6) ∨ (n = 834 ∧ j = 7) ∨ (n = 835 ∧ j = 8)) : tailL { S with R := S.R.set n v } = (tailL S).set j (.int .u32 (and32 v (maskF n))) := by
  unfold tailL
  simp only [RS.at_set]
  rcases h with ⟨rfl, rfl⟩ | ⟨rfl, rfl⟩ | ⟨rfl, rfl⟩ | ⟨rfl, rfl⟩ | ⟨rfl, rfl⟩ | ⟨rfl, rfl⟩ | ⟨rfl, rfl⟩ <;> rfl
theorem st_16 {x : Int} (h : isSt x) : and32 (wr (and32 x 8 * 16)) 136 = wr (and32 x 8 * 16) := by
  rcases h with rfl | rfl | rfl | rfl <;> decide +kernel
theorem rtrap_any (hA : (refA b cp cc S).at_ W) (ho : S.Ok) (h2 : S.Ok2) (hh : S.halted = false) (wd cause : Int) {tval : Int} (ht : U32 tval) :
    Calls Tryz.prog 43 #[.pointer (some ⟨b, 0, none⟩), .int .u32 wd, .int .i64 cause, .int .u32 tval] W fun e w => e = .returned (.agg (S.trap wd cause tval).1.vs) ∧ Sep.Post (refA b cp cc S) W (refA b cp cc (S.trap wd cause tval).2) w := by
  have h32 := ho.x32
  refine vc43 b 0 wd cause tval ((St.begin hA).al fun k w2 H => H.dr fun w3 H => ⟨_, rpc_ld H, _, rt_ld H h32 4 rfl, ?_⟩)
  rintro vs rfl
  refine H.alb fun k2 w4 H _ hb => ⟨hb, H.sts0 2 rfl rfl rfl (rt_one ⟨S.pc, wd, 0, 0, cause, tval, S.R.at 773⟩) fun w5 H => ⟨_, rt_ld H h32 4 rfl, split_of (fun q => ?_) (fun q => ?_)⟩⟩
  · have q := beq_i q
    have e : S.trap wd cause tval = (⟨S.pc, wd, 0, 0, cause, tval, S.pc⟩, { S with halted := true }) := by
      unfold HS.trap RS.trap
      rw [if_pos q]; rfl
    rw [e]
    refine rt_st H h32 0 (by decide) (.bool true) { S with halted := true } rfl rfl rfl rfl rfl rfl fun w6 H => ⟨_, rpc_ld H, ?_⟩
    refine H.st 2 rfl (show 6 < 7 by decide) fun w7 H => ⟨_, rfl, H.cells 2 rfl, H.sts0 1 rfl rfl rfl (rt_one ⟨S.pc, wd, 0, 0, cause, tval, S.pc⟩) fun w8 H => ⟨_, rfl, H.cells 1 rfl, rfl, H.post 0 rfl⟩⟩
  · have q := bne_i q
    have e : S.trap wd cause tval = (⟨S.pc, wd, 0, 0, cause, tval, S.R.at 773⟩, { S with R := S.R.trapped S.pc cause tval, pc := S.R.at 773 }) := by
      unfold HS.trap RS.trap
      rw [if_neg q]
      show (_, ({ S with R := S.R.trapped S.pc cause tval, pc := S.R.at 773, halted := false } : HS)) = _
      rw [← hh]
    rw [e]
    refine ⟨_, rpc_ld H, ?_⟩
    have e833 : and32 S.pc (maskF 833) = S.pc := by
      rw [show maskF 833 = 4294967292 from rfl, and_fffc ho.pc, h2.pc4]; omega
    refine rt_st H h32 6 (by decide) (.int .u32 S.pc) { S with R := S.R.set 833 S.pc } rfl rfl rfl rfl rfl (by rw [tail_set S 833 S.pc 6 (by omega), e833]) fun w6 H => ?_
    rintro z rfl
    refine rt_st H h32 7 (by decide) (.int .u32 (wr cause)) { S with R := (S.R.set 833 S.pc).set 834 (wr cause) } rfl rfl rfl rfl rfl (by
      have := tail_set { S with R := S.R.set 833 S.pc } 834 (wr cause) 7 (by omega)
      rw [show maskF 834 = 4294967295 from rfl, and_ffff (wr_u _)] at this
      exact this) fun w7 H => ?_
    refine rt_st H h32 8 (by decide) (.int .u32 tval) { S with R := ((S.R.set 833 S.pc).set 834 (wr cause)).set 835 tval } rfl rfl rfl rfl rfl (by
      have := tail_set { S with R := (S.R.set 833 S.pc).set 834 (wr cause) } 835 tval 8 (by omega)
      rw [show maskF 835 = 4294967295 from rfl, and_ffff ht] at this
      exact this) fun w8 H => ⟨_, rt_ld H h32 2 rfl, ?_⟩
    have e1 : (((S.R.set 833 S.pc).set 834 (wr cause)).set 835 tval).at 768 = S.R.at 768 := by rw [RS.at_set, RS.at_set, RS.at_set]; rfl
    rintro z rfl
    refine ⟨by decide, ?_⟩
    rintro z rfl
    refine rt_st H h32 2 (by decide) _ { S with R := S.R.trapped S.pc cause tval } rfl rfl rfl rfl rfl (by
      have := tail_set { S with R := ((S.R.set 833 S.pc).set 834 (wr cause)).set 835 tval } 768 (wr (and32 (S.R.at 768) 8 * 16)) 2 (by omega)
      rw [show maskF 768 = 136 from rfl, st_16 h2.st] at this
      exact this) fun w9 H => ⟨_, rt_ld H h32 4 rfl, ?_⟩
    have e2 : (S.R.trapped S.pc cause tval).at 773 = S.R.at 773 := by unfold RS.trapped; rw [RS.at_set, RS.at_set, RS.at_set, RS.at_set]; rfl
    rw [show ({ S with R := S.R.trapped S.pc cause tval } : HS).R.at 773 = S.R.at 773 from e2]
    exact rpc_st H h32 _ fun w10 H => ⟨_, rfl, H.cells 2 rfl, H.sts0 1 rfl rfl rfl (rt_one ⟨S.pc, wd, 0, 0, cause, tval, S.R.at 773⟩) fun w11 H => ⟨_, rfl, H.cells 1 rfl, rfl, H.post 0 rfl⟩⟩
/-! ### done -/
def HS.rdone (S : HS) (wd rd v next : Int) : Rt × HS := (⟨S.pc, wd, rd, if rd = 0 then 0 else v, -1, 0, next⟩, { S with x := S.x.set rd.toNat (if rd = 0 then 0 else v), pc := next, R := S.R.counted })
theorem rdone_any (hA : (refA b cp cc S).at_ W) (h32 : S.x.length = 32) (hr : 0 ≤ S.R.ret ∧ S.R.ret < 4294967295) (wd rd v next : Int) (hd : 0 ≤ rd ∧ rd < 32) :
    Calls Tryz.prog 54 #[.pointer (some ⟨b, 0, none⟩), .int .u32 wd, .int .i64 rd, .int .u32 v, .int .u32 next] W fun e w => e = .returned (.agg (S.rdone wd rd v next).1.vs) ∧ Sep.Post (refA b cp cc S) W (refA b cp cc (S.rdone wd rd v next).2) w := by
  have key : ∀ (u : Int) (hu : u = if rd = 0 then 0 else v) (k : Nat) (w2 : World), St W (refA b cp cc S).own w2 [refA b cp cc S, blk k noRt.vs 46] → ∃ z : Int, w2.cell? ⟨b, 0 + 3, none⟩ = some (.int .u32 z) ∧ ∀ vs : Array Value, vs = #[.int .u32 z, .int .u32 wd, .int .i64 rd, .int .u32 u, .int .i64 (-1), .int .u32 0, .int .u32 next] → ∀ (k2 : Nat) (w3 : World), k2 = w2.heap.size → w3 = w2.alloc (.cells noRt.vs 46) →
      vs.size = 7 ∧ (∀ j : Nat, j < 7 → (∃ x, w3.cell? ⟨k2, 0 + j, none⟩ = some x) ∧ w3.frozen? ⟨k2, 0 + j, none⟩ = false) ∧ (∀ x : Value, x ∈ vs.toList → x.oneCell' = true) ∧ ∀ w4 : World, w4 = w3.setCells k2 0 vs.toList → (0 ≤ rd ∧ rd < ((32 : Nat) : Int)) ∧ (∃ x, w4.cell? ⟨b, 0 + 4 + rd.toNat * 1, none⟩ = some x) ∧ w4.frozen? ⟨b, 0 + 4 + rd.toNat * 1, none⟩ = false ∧ ∀ w5 : World, w5 = w4.setCell ⟨b, 0 + 4 + rd.toNat * 1, none⟩ (.int .u32 u) →
        (∃ x, w5.cell? ⟨b, 0 + 3, none⟩ = some x) ∧ w5.frozen? ⟨b, 0 + 3, none⟩ = false ∧ ∀ w6 : World, w6 = w5.setCell ⟨b, 0 + 3, none⟩ (.int .u32 next) → ∃ z2 : Int, w6.cell? ⟨b, 0 + 37, none⟩ = some (.int .i64 z2) ∧ ∀ z3 : Int, z3 = IntKind.wrap .i64 (z2 + 1) → (∃ x, w6.cell? ⟨b, 0 + 37, none⟩ = some x) ∧ w6.frozen? ⟨b, 0 + 37, none⟩ = false ∧ ∀ w7 : World, w7 = w6.setCell ⟨b, 0 + 37, none⟩ (.int .i64 z3) →
          ∃ vs2 : Array Value, vs2.size = 7 ∧ cellsAt w7 ⟨k2, 0, none⟩ vs2 ∧ vs2.size = 7 ∧ (∀ j : Nat, j < 7 → (∃ x, w7.cell? ⟨k, 0 + j, none⟩ = some x) ∧ w7.frozen? ⟨k, 0 + j, none⟩ = false) ∧ (∀ x : Value, x ∈ vs2.toList → x.oneCell' = true) ∧ ∀ w8 : World, w8 = w7.setCells k 0 vs2.toList → ∃ vs3 : Array Value, vs3.size = 7 ∧ cellsAt w8 ⟨k, 0, none⟩ vs3 ∧ (Ending.returned (.agg vs3) = .returned (.agg (S.rdone wd rd v next).1.vs) ∧ Sep.Post (refA b cp cc S) W (refA b cp cc (S.rdone wd rd v next).2) w8) := by
    intro u hu k w2 H
    refine ⟨_, rpc_ld H, ?_⟩
    rintro vs rfl
    refine H.al fun k2 w3 H => H.sts0 2 rfl rfl rfl (rt_one ⟨S.pc, wd, rd, u, -1, 0, next⟩) fun w4 H => ⟨hd, rx_st H h32 rd hd.1 hd.2 u fun w5 H => ?_⟩
    have h32' : ({ S with x := S.x.set rd.toNat u } : HS).x.length = 32 := by rw [show ({ S with x := S.x.set rd.toNat u } : HS).x = S.x.set rd.toNat u from rfl, List.length_set]; exact h32
    refine rpc_st H h32' next fun w6 H => ⟨_, rt_ld H h32' 1 rfl, ?_⟩
    rintro z rfl
    have er : IntKind.wrap .i64 (S.R.ret + 1) = S.R.counted.ret := by
      rw [w64 (by omega) (by omega)]
      exact (wr_id ⟨by omega, by omega⟩).symm
    refine rt_st H h32' 1 (by decide) _ { S with x := S.x.set rd.toNat u, pc := next, R := S.R.counted } rfl rfl rfl rfl rfl (by
      show tailL _ = _
      unfold tailL
      rw [show IntKind.wrap .i64 (({ S with x := S.x.set rd.toNat u, pc := next } : HS).R.ret + 1) = S.R.counted.ret from er]
      rfl) fun w7 H => ?_
    refine ⟨_, rfl, H.cells 2 rfl, H.sts0 1 rfl rfl rfl (rt_one ⟨S.pc, wd, rd, u, -1, 0, next⟩) fun w8 H => ⟨_, rfl, H.cells 1 rfl, ?_, ?_⟩⟩
    · unfold HS.rdone; rw [hu]; rfl
    · unfold HS.rdone; rw [← hu]; exact H.post 0 rfl
  refine vc54 b 0 wd rd v next ((St.begin hA).al fun k w2 H => split_of (fun q => ?_) (fun q => ?_))
  · exact key 0 (if_pos (beq_i q)).symm k w2 H
  · exact key v (if_neg (bne_i q)).symm k w2 H
/-- a hart's answer, in the cell of the caller's result -/
theorem r_tail {A A' : Asn} {r : Rt} {f : FuncId} {args : Array Value} {k : Nat} {cs : Array Value} {Φ : Array Value → World → Prop} (H : St W0 M w (A :: blk k cs 46 :: L)) (hs : cs.size = 7)
    (hc : Calls Tryz.prog f args w fun e w' => e = .returned (.agg r.vs) ∧ Sep.Post A w A' w') (hq : ∀ w', St W0 M w' (A' :: blk k r.vs 46 :: L) → Φ r.vs w') :
    Calls Tryz.prog f args w fun e w' => ∃ vs : Array Value, e = .returned (.agg vs) ∧ vs.size = 7 ∧ (∀ j : Nat, j < 7 → (∃ v, w'.cell? ⟨k, 0 + j, none⟩ = some v) ∧ w'.frozen? ⟨k, 0 + j, none⟩ = false) ∧ (∀ v : Value, v ∈ vs.toList → v.oneCell' = true) ∧
      ∀ w8 : World, w8 = w'.setCells k 0 vs.toList → ∃ vs4 : Array Value, vs4.size = 7 ∧ cellsAt w8 ⟨k, 0, none⟩ vs4 ∧ Φ vs4 w8 :=
  H.call 0 rfl hc fun w' H => ⟨_, rfl, H.sts0 1 rfl rfl hs (rt_one _) fun w8 H => ⟨_, rfl, H.cells 1 rfl, hq _ H⟩⟩
def HS.rjump (S : HS) (wd rd to : Int) : Rt × HS := if to % 4 ≠ 0 then S.trap wd 0 to else S.rdone wd rd S.p4 to
theorem rjump_any (hA : (refA b cp cc S).at_ W) (ho : S.Ok) (h2 : S.Ok2) (hh : S.halted = false) (hr : S.R.ret < 4294967295) (wd rd : Int) (hd : 0 ≤ rd ∧ rd < 32) {to : Int} (ht : U32 to) :
    Calls Tryz.prog 56 #[.pointer (some ⟨b, 0, none⟩), .int .u32 wd, .int .i64 rd, .int .u32 to] W fun e w => e = .returned (.agg (S.rjump wd rd to).1.vs) ∧ Sep.Post (refA b cp cc S) W (refA b cp cc (S.rjump wd rd to).2) w := by
  refine vc56 b 0 wd rd to ((St.begin hA).al fun k w2 H => ⟨by decide, ?_⟩)
  rintro z rfl
  rw [Int.tmod_eq_emod_of_nonneg ht.1]
  refine split_of (fun q => ?_) (fun q => ?_)
  · have e : S.rjump wd rd to = S.trap wd 0 to := by unfold HS.rjump; exact if_pos (bne_t q)
    rw [e]
    exact r_tail (L := []) H rfl (rtrap_any (H.nth 0 rfl) ho h2 hh wd 0 ht) fun w3 H => ⟨rfl, H.post 0 rfl⟩
  · have e : S.rjump wd rd to = S.rdone wd rd S.p4 to := by unfold HS.rjump; exact if_neg (fun h => h (bne_f q))
    rw [e]
    refine ⟨_, rpc_ld H, ?_⟩
    rintro z rfl
    exact r_tail (L := []) H rfl (rdone_any (H.nth 0 rfl) ho.x32 ⟨ho.R.ret.1, hr⟩ wd rd _ to hd) fun w3 H => ⟨rfl, H.post 0 rfl⟩
/-! ### where, fault -/
theorem rwhere_any (hA : (refA b cp cc S).at_ W) (h32 : S.x.length = 32) (i : Ins) (hi : i.Ok) (h1 : 1 ≤ i.op) (h67 : i.op ≤ 67) : Calls Tryz.prog 38 #[.pointer (some ⟨b, 0, none⟩), .agg i.vs] W fun e w => e = .returned (.int .u32 (whereF i.op i.imm (S.reg i.rs1))) ∧ Sep.Post (refA b cp cc S) W (refA b cp cc S) w := by
  refine vc38 b 0 i.vs ((St.begin hA).al fun k w2 H => ⟨_, H.ld 1 rfl rfl, H.callq (qclass_q i.op h1 h67 _) fun w3 H => ⟨_, rfl, split_of (fun q => ?_) (fun q => ?_)⟩⟩)
  · refine ⟨_, H.ld 1 rfl rfl, hi.2.1, _, rx_ld H h32 _ hi.2.1.1 hi.2.1.2, H.drN fun w4 H => ⟨?_, H.post 0 rfl⟩⟩
    unfold whereF; rw [if_pos (beq_i q)]
  · refine ⟨_, H.ld 1 rfl rfl, hi.2.1, _, rx_ld H h32 _ hi.2.1.1 hi.2.1.2, _, H.ld 1 rfl rfl, ?_⟩
    rintro z rfl z2 rfl
    refine H.drN fun w4 H => ⟨?_, H.post 0 rfl⟩
    unfold whereF; rw [if_neg (bne_i q)]; rfl
def inF (n addr data : Int) : Bool := decide (65536 ≤ addr ∧ addr + n ≤ 65536 + data)
def devF (op n addr : Int) : Bool := decide (classP op = 5 ∧ 131072 ≤ addr ∧ addr + n ≤ 131076)
theorem reach_eq {op addr data : Int} (hn : alu.sizeF op = 1 ∨ alu.sizeF op = 2 ∨ alu.sizeF op = 4) (ha : U32 addr) (hd : 0 ≤ data ∧ data ≤ 4096) :
    reachF op addr data = if addr % alu.sizeF op ≠ 0 then (if isLd op then 4 else 6) else if (inF (alu.sizeF op) addr data || devF op (alu.sizeF op) addr) = true then -1 else if isLd op then 5 else 7 := by
  have ea : and32 addr (wr (wr (alu.sizeF op) - 1)) = addr % alu.sizeF op := by
    rcases hn with h | h | h <;> rw [h]
    · exact (and_mod ha 0 (by decide)).trans rfl
    · exact (and_mod ha 1 (by decide)).trans rfl
    · exact (and_mod ha 2 (by decide)).trans rfl
  obtain ⟨a0, a1⟩ := ha
  have e1 : withinF addr (wr (alu.sizeF op)) 65536 (wr data) = inF (alu.sizeF op) addr data := by
    unfold withinF inF wr
    simp only [w32m]
    rw [← Bool.decide_and, decide_eq_decide]
    omega
  have e2 : (classP op = 5 ∧ withinF addr (wr (alu.sizeF op)) 131072 4 = true) ↔ devF op (alu.sizeF op) addr = true := by
    unfold withinF devF wr
    simp only [w32m, Bool.and_eq_true, decide_eq_true_eq]
    constructor
    · rintro ⟨h1, h2, h3⟩; exact ⟨h1, by omega, by omega⟩
    · rintro ⟨h1, h2, h3⟩; exact ⟨h1, by omega, by omega⟩
  unfold reachF
  rw [ea, e1]
  by_cases h0 : addr % alu.sizeF op ≠ 0
  · rw [if_pos h0, if_pos h0]
  rw [if_neg h0, if_neg h0]
  cases h1 : inF (alu.sizeF op) addr data with
  | true => rw [if_pos rfl, if_pos (by rfl)]
  | false =>
    rw [if_neg (by decide)]
    by_cases h2 : devF op (alu.sizeF op) addr = true
    · rw [if_pos (e2.2 h2), if_pos (by rw [h2]; rfl)]
    · rw [if_neg (fun h => h2 (e2.1 h)), Bool.false_or, if_neg h2]
end Go.Proofs.YtcpmgklhfpcaeaaGreatDoor
