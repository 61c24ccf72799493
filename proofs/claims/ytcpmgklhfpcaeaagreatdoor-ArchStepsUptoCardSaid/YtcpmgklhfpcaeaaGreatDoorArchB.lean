/- A hart as it lies in memory; the small functions' contracts. No condition but the tables as they are laid. -/
import Derived.Test.YtcpmgklhfpcaeaaGreatDoorArchA
namespace Go.Proofs.YtcpmgklhfpcaeaaGreatDoor
open Go.RowKit Go.XHeap Go.Sx Go.Sep
set_option linter.unusedVariables false
set_option maxRecDepth 100000

/-! ### the tables -/
/-- nothing below B has been written since the tables were laid -/
def Tabs (B : Nat) (w : World) : Prop := ∃ W0 : World, W0.heap.size = B ∧ Tab W0 ∧ CodeAt W0 1 codeL ∧ XTouch (fun k => B ≤ k) W0 w
theorem Tabs.cell {B : Nat} {W0 w : World} (hB : W0.heap.size = B) (ht : XTouch (fun k => B ≤ k) W0 w) {g o : Nat} {v : Value} (h : W0.cell? ⟨g, o, none⟩ = some v) : w.cell? ⟨g, o, none⟩ = some v := by
  have hl := World.block_lt_of_cell? _ _ h
  exact (ht.cell hl (fun e => absurd (show B ≤ g from e) (by have : g < W0.heap.size := hl; omega))).trans h
theorem Tabs.tab {B : Nat} {w : World} (h : Tabs B w) : Tab w := by
  obtain ⟨W0, hB, hT, -, ht⟩ := h
  exact ⟨fun i x hi => ⟨cell hB ht (hT.1 i x hi).1, cell hB ht (hT.1 i x hi).2.1, cell hB ht (hT.1 i x hi).2.2⟩, fun i x hi => ⟨cell hB ht (hT.2 i x hi).1, cell hB ht (hT.2 i x hi).2.1, cell hB ht (hT.2 i x hi).2.2⟩⟩
theorem Tabs.code {B : Nat} {w : World} (h : Tabs B w) : CodeAt w 1 codeL := by
  obtain ⟨W0, hB, -, hC, ht⟩ := h
  intro c l hc
  refine ⟨fun e => cell hB ht ((hC c l hc).1 e), fun e => ?_⟩
  obtain ⟨b, off, cap, h1, h2⟩ := (hC c l hc).2 e
  exact ⟨b, off, cap, cell hB ht h1, fun i n hi => cell hB ht (h2 i n hi)⟩
theorem Tabs.keep {B : Nat} {M : Nat → Prop} {W w : World} (h : Tabs B W) (ht : XTouch M W w) (hm : ∀ k, M k → B ≤ k) : Tabs B w := by
  obtain ⟨W0, hB, hT, hC, h0⟩ := h
  exact ⟨W0, hB, hT, hC, h0.trans ht (fun k _ e => hm k e)⟩
theorem Tabs.hush {B : Nat} {W w : World} (h : Tabs B W) (ht : Hush W w) : Tabs B w := h.keep ht (fun _ e => e.elim)
theorem Tabs.st {B : Nat} {M : Nat → Prop} {W w : World} {L : List Asn} (h : Tabs B W) (H : St W M w L) (hm : ∀ k, M k → B ≤ k) : Tabs B w := h.keep H.touch hm
theorem class_q {B : Nat} {w : World} (hT : Tabs B w) (op : Int) : Calls Tryz.prog 35 #[.int .i64 op] w fun e w' => e = .returned (.int .i64 (classP op)) ∧ Hush w w' := pclass_any op w hT.tab
theorem reads_q {B : Nat} {w : World} (hT : Tabs B w) (op : Int) : Calls Tryz.prog 83 #[.int .i64 op] w fun e w' => e = .returned (.tuple #[.bool (readsP op).1, .bool (readsP op).2]) ∧ Hush w w' := preads_any op w hT.tab
theorem writes_q {B : Nat} {w : World} (hT : Tabs B w) (op : Int) : Calls Tryz.prog 51 #[.int .i64 op] w fun e w' => e = .returned (.bool (writesP op)) ∧ Hush w w' := pwrites_any op w hT.tab
theorem decode_q {B : Nat} {w : World} (hT : Tabs B w) (x : Int) (hx : U32 x) : Calls Tryz.prog 31 #[.int .u32 x] w fun e w' => e = .returned (.tuple #[.agg (decF x).vs, .bool (decOk x)]) ∧ Hush w w' := by
  refine (decode_any x hx.1 hx.2 w hT.tab hT.code).mono ?_
  rintro e w' ⟨hd, hg⟩
  refine ⟨?_, hg⟩
  rcases hd with ⟨op, h1, h2, hm, rfl⟩ | ⟨hn, rfl⟩
  · have e1 := opF_of h1 h2 hx.1 hx.2 hm
    unfold decF decOk
    rw [e1]
    rfl
  · have e1 := opF_none hn
    unfold decF decOk
    rw [e1]
    rfl
theorem size_q (op : Int) (w : World) : Calls Tryz.prog 32 #[.int .i64 op] w fun e w' => e = .returned (.int .i64 (alu.sizeF op)) ∧ w' = w := (alu.size_any op w).mono fun e w' h => ⟨h.1, h.2.symm⟩
theorem exec_q (op : Int) {a b : Int} (ha : U32 a) (hb : U32 b) (w : World) : Calls Tryz.prog 45 #[.int .i64 op, .int .u32 a, .int .u32 b] w fun e w' => e = .returned (.int .u32 (alu.execF op a b)) ∧ Hush w w' := alu.exec_any op a b ha.1 ha.2 hb.1 hb.2 w
theorem taken_q (op : Int) {a b : Int} (ha : U32 a) (hb : U32 b) (w : World) : Calls Tryz.prog 46 #[.int .i64 op, .int .u32 a, .int .u32 b] w fun e w' => e = .returned (.bool (alu.takenF op a b)) ∧ w' = w := (alu.taken_any op a b ha.1 ha.2 hb.1 hb.2 w).mono fun e w' h => ⟨h.1, h.2.symm⟩
theorem widen_q (op : Int) {a : Int} (ha : U32 a) (w : World) : Calls Tryz.prog 50 #[.int .i64 op, .int .u32 a] w fun e w' => e = .returned (.int .u32 (alu.widenF op a)) ∧ w' = w := (alu.widen_any op a ha.1 ha.2 w).mono fun e w' h => ⟨h.1, h.2.symm⟩
/-! ### a hart -/
structure HP where
  b : Nat
  r : Nat
  m : Nat
  p : Option Addr
  c : Nat
def u32s (l : List Int) : List Value := l.map (.int .u32)
def rootL (g : HP) (S : HS) : List Value := (.pointer (some ⟨g.r, 0, none⟩) :: .slice g.p S.code.length g.c :: .int .i64 S.data :: .int .u32 S.pc :: (S.x.map (.int .u32) ++ [.bool S.halted]))
def rootC (g : HP) (S : HS) : Array Value := (rootL g S).toArray
def hartL (g : HP) (S : HS) : List Asn := [blk g.b (rootC g S) 74, regsA g.r g.m S.R, sl 35 1 (.slice g.p S.code.length g.c) S.code.length (u32s S.code)]
def hartA (g : HP) (S : HS) : Asn := all (hartL g S)
variable {W w : World} {g : HP} {S S' : HS} {L : List Asn} {B : Nat}
theorem hart_open (h : (hartA g S).at_ W) : St W (hartA g S).own W (hartL g S ++ []) := (St.begin h).open_
theorem hart_shut (H : St W (hartA g S).own w (hartL g S' ++ L)) : Sep.Post (hartA g S) W (hartA g S') w := (St.shut H).post 0 rfl
theorem root_at (i : Nat) : (rootC g S)[i]? = (rootL g S)[i]? := by unfold rootC; rw [List.getElem?_toArray]
theorem root_x (h : S.x.length = 32) {i : Nat} (hi : i < 32) : (rootC g S)[4 + i]? = some (.int .u32 (S.x.getD i 0)) := by
  rw [root_at, show 4 + i = i + 1 + 1 + 1 + 1 by omega]
  unfold rootL
  rw [List.getElem?_cons_succ, List.getElem?_cons_succ, List.getElem?_cons_succ, List.getElem?_cons_succ, List.getElem?_append_left (by simp; omega), List.getElem?_map, List.getD_eq_getElem?_getD, List.getElem?_eq_getElem (by omega)]
  rfl
theorem root_h (h : S.x.length = 32) : (rootC g S)[36]? = some (.bool S.halted) := by
  rw [root_at]
  unfold rootL
  rw [List.getElem?_cons_succ, List.getElem?_cons_succ, List.getElem?_cons_succ, List.getElem?_cons_succ, List.getElem?_append_right (by simp; omega)]
  simp [h]
theorem root_size (h : S.x.length = 32) : (rootC g S).size = 37 := by unfold rootC rootL; simp [h]
theorem root_setpc (v : Int) : (rootC g S).setIfInBounds 3 (.int .u32 v) = rootC g { S with pc := v } := by
  unfold rootC rootL
  rw [List.setIfInBounds_toArray]
  rfl
theorem root_seth (h : S.x.length = 32) (v : Bool) : (rootC g S).setIfInBounds 36 (.bool v) = rootC g { S with halted := v } := by
  unfold rootC rootL
  rw [List.setIfInBounds_toArray]
  simp only [List.set_cons_succ]
  rw [List.set_append_right _ _ (by simp; omega)]
  simp [h]
theorem root_setx (h : S.x.length = 32) {i : Nat} (hi : i < 32) (v : Int) : (rootC g S).setIfInBounds (4 + i) (.int .u32 v) = rootC g { S with x := S.x.set i v } := by
  unfold rootC rootL
  rw [List.setIfInBounds_toArray, show 4 + i = i + 1 + 1 + 1 + 1 by omega]
  simp only [List.set_cons_succ]
  rw [List.set_append_left _ _ (by simp; omega), List.map_set]
theorem root_R (R : RS) : rootC g { S with R := R } = rootC g S := rfl
/-! ### the small ones -/
theorem hreg_any (hA : (hartA g S).at_ W) (h32 : S.x.length = 32) (i : Int) (h0 : 0 ≤ i) (h1 : i < 32) : Calls Tryz.prog 60 #[.pointer (some ⟨g.b, 0, none⟩), .int .i64 i] W fun e w => e = .returned (.int .u32 (S.reg i)) ∧ w = W := by
  have H := hart_open hA
  refine vc60 g.b 0 i (split_of (fun q => absurd (of_decide_eq_true q) (by omega)) fun _ => split_of (fun q => absurd (of_decide_eq_true q) (by omega)) fun _ => ?_)
  refine ⟨⟨h0, by omega⟩, _, ?_, rfl, rfl⟩
  rw [Nat.mul_one, Nat.zero_add]
  exact H.ld 0 rfl (root_x h32 (by omega))
theorem hpc_any (hA : (hartA g S).at_ W) : Calls Tryz.prog 61 #[.pointer (some ⟨g.b, 0, none⟩)] W fun e w => e = .returned (.int .u32 S.pc) ∧ w = W := by
  have H := hart_open hA
  exact vc61 g.b 0 ⟨_, H.ld 0 rfl ((root_at 3).trans rfl), rfl, rfl⟩
def imageOk (n : Nat) (data : Int) : Bool := decide ((1 ≤ n ∧ n ≤ 4096) ∧ 0 ≤ data ∧ data ≤ 4096 ∧ data % 16 = 0)
def errV (n : Int) : Value := .iface 32 (.int .i64 n)
theorem image_any (p : Option Addr) (n c : Nat) (data : Int) (W : World) : Calls Tryz.prog 26 #[.slice p n c, .int .i64 data] W fun e w => e = .returned (if imageOk n data then .nilIface else errV 1) ∧ w = W := by
  have no : ¬ ((1 ≤ n ∧ n ≤ 4096) ∧ 0 ≤ data ∧ data ≤ 4096 ∧ data % 16 = 0) → imageOk n data = false := fun h => decide_eq_false h
  refine vc26 p n c data (split_of (fun q => ?_) fun q => split_of (fun q2 => ?_) fun q2 => split_of (fun q3 => ?_) fun q3 => split_of (fun q4 => ?_) fun q4 => ⟨by decide, ?_⟩)
  · have q := of_decide_eq_true q
    refine ⟨?_, rfl⟩
    rw [no (by omega)]; rfl
  · have q2 := of_decide_eq_true q2
    refine ⟨?_, rfl⟩
    rw [no (by omega)]; rfl
  · have q3 := of_decide_eq_true q3
    refine ⟨?_, rfl⟩
    rw [no (by omega)]; rfl
  · have q4 := of_decide_eq_true q4
    refine ⟨?_, rfl⟩
    rw [no (by omega)]; rfl
  · have q := of_decide_eq_false q; have q2 := of_decide_eq_false q2; have q3 := of_decide_eq_false q3; have q4 := of_decide_eq_false q4
    rintro z rfl
    rw [Int.tmod_eq_emod_of_nonneg (by omega)]
    refine split_of (fun q5 => ?_) (fun q5 => ?_)
    · have q5 : data % 16 ≠ 0 := by simpa using q5
      refine ⟨?_, rfl⟩
      rw [no (by omega)]; rfl
    · have q5 : data % 16 = 0 := by simpa using q5
      refine ⟨?_, rfl⟩
      rw [show imageOk n data = true from decide_eq_true (by omega)]; rfl
theorem word_any (hA : (hartA g S).at_ W) (ho : S.Ok) : Calls Tryz.prog 30 #[.slice g.p S.code.length g.c, .int .u32 S.pc] W fun e w => e = .returned (.tuple #[.int .u32 S.word, .bool S.there]) ∧ w = W := by
  have H := hart_open hA
  obtain ⟨p0, p1⟩ := ho.pc
  refine vc30 g.p S.code.length g.c S.pc ⟨by decide, ?_⟩
  rintro z rfl
  have e1 : Int.fdiv S.pc (2 ^ min 2 (IntKind.bits .u32)) = S.pc / 4 := by
    rw [show (2 : Int) ^ min 2 (IntKind.bits .u32) = 4 from rfl, Int.fdiv_eq_ediv_of_nonneg _ (by decide)]
  rw [e1]
  rintro z2 rfl
  rw [w64 (by omega) (by omega)]
  refine split_of (fun q => ?_) (fun q => ?_)
  · have q := of_decide_eq_true q
    refine ⟨⟨by omega, q⟩, ?_⟩
    obtain ⟨ao, cap, hv, hl, -, -, -, hc⟩ := (H.nth 2 rfl : Sl W 35 1 _ _ _).open1
    cases hv
    obtain ⟨b, off, hp, -, hc⟩ := hc (by omega)
    rw [hp]
    refine adr_some ⟨S.code.getD (S.pc / 4).toNat 0, ?_, ?_, rfl⟩
    · rw [Nat.mul_one, (hc _ (by omega)).1]
      unfold u32s
      rw [List.getElem?_map, List.getD_eq_getElem?_getD, List.getElem?_eq_getElem (by omega)]
      rfl
    · unfold HS.word HS.there
      rw [if_pos q, decide_eq_true q]
  · have q := of_decide_eq_false q
    refine ⟨?_, rfl⟩
    unfold HS.word HS.there
    rw [if_neg q, decide_eq_false q]
theorem ins_one (i : Ins) : ∀ v ∈ i.vs.toList, v.oneCell' = true := by
  intro v hv
  simp only [Ins.vs, List.mem_cons, List.not_mem_nil, or_false] at hv
  rcases hv with rfl | rfl | rfl | rfl | rfl <;> rfl
theorem where_any (hT : Tabs B W) (i : Ins) (a : Int) : Calls Tryz.prog 33 #[.agg i.vs, .int .u32 a] W fun e w => e = .returned (.int .u32 (whereF i.op i.imm a)) ∧ Hush W w := by
  refine vc33 i.vs a ((St.nil W).al fun k w2 H => ?_)
  refine ⟨_, H.ld 0 rfl rfl, H.callq (class_q (hT.st H (fun _ e => e.elim)) _) fun w3 H => ⟨_, rfl, split_of (fun q => ?_) (fun q => ?_)⟩⟩
  · have q := beq_i q
    refine ⟨?_, H.quiet'⟩
    unfold whereF; rw [if_pos q]
  · have q := bne_i q
    refine ⟨_, H.ld 0 rfl rfl, ?_⟩
    rintro z rfl z2 rfl
    refine ⟨?_, H.quiet'⟩
    unfold whereF; rw [if_neg q]; rfl
theorem oper_any (hT : Tabs B W) (i : Ins) (pc a b : Int) : Calls Tryz.prog 44 #[.agg i.vs, .int .u32 pc, .int .u32 a, .int .u32 b] W fun e w => e = .returned (.tuple #[.int .u32 (operF i.op i.imm pc a b).1, .int .u32 (operF i.op i.imm pc a b).2]) ∧ Hush W w := by
  refine vc44 i.vs pc a b ((St.nil W).al fun k w2 H => ?_)
  refine ⟨_, H.ld 0 rfl rfl, H.callq (reads_q (hT.st H (fun _ e => e.elim)) _) fun w3 H => ⟨_, _, rfl, split_of (fun q => ?_) (fun q => split_of (fun q2 => ?_) (fun q2 => ?_))⟩⟩
  · have q : (readsP i.op).1 = false := by simpa using q
    refine ⟨_, H.ld 0 rfl rfl, ?_⟩
    rintro z rfl
    refine H.drN fun w4 H => ⟨?_, H.quiet'⟩
    unfold operF; rw [if_pos q]; rfl
  · have q : (readsP i.op).1 = true := by simpa using q
    have q2 : (readsP i.op).2 = false := by simpa using q2
    refine ⟨_, H.ld 0 rfl rfl, ?_⟩
    rintro z rfl
    refine H.drN fun w4 H => ⟨?_, H.quiet'⟩
    unfold operF; rw [if_neg (by rw [q]; decide), if_pos q2]; rfl
  · have q : (readsP i.op).1 = true := by simpa using q
    have q2 : (readsP i.op).2 = true := by simpa using q2
    refine ⟨?_, H.quiet'⟩
    unfold operF; rw [if_neg (by rw [q]; decide), if_neg (by rw [q2]; decide)]
theorem targ_any (i : Ins) (pc a : Int) (W : World) : Calls Tryz.prog 47 #[.agg i.vs, .int .u32 pc, .int .u32 a] W fun e w => e = .returned (.int .u32 (targF i.op i.imm pc a)) ∧ Hush W w := by
  refine vc47 i.vs pc a ((St.nil W).al fun k w2 H => ?_)
  refine ⟨_, H.ld 0 rfl rfl, split_of (fun q => ?_) (fun q => ?_)⟩
  · have q := beq_i q
    refine ⟨_, H.ld 0 rfl rfl, ?_⟩
    rintro z rfl z2 rfl z3 rfl
    refine ⟨?_, H.quiet'⟩
    unfold targF; rw [if_pos q]; rfl
  · have q := bne_i q
    refine ⟨_, H.ld 0 rfl rfl, ?_⟩
    rintro z rfl z2 rfl
    refine ⟨?_, H.quiet'⟩
    unfold targF; rw [if_neg q]; rfl
theorem within1_any {k k2 : Nat} {addr n : Int} (fr size : Int) (h1 : W.cell? ⟨k, 0, none⟩ = some (.int .u32 addr)) (h2 : W.cell? ⟨k2, 0, none⟩ = some (.int .u32 n)) :
    Calls Tryz.prog 78 #[.int .u32 fr, .int .u32 size, .pointer (some ⟨k, 0, none⟩), .pointer (some ⟨k2, 0, none⟩)] W fun e w => e = .returned (.bool (withinF addr n fr size)) ∧ w = W := by
  refine vc78 fr size k 0 k2 0 ⟨_, h1, ?_⟩
  rintro z rfl
  refine split_of (fun q => ?_) (fun q => ?_)
  · refine ⟨_, h1, ?_⟩
    rintro z2 rfl
    refine ⟨_, h2, ?_⟩
    rintro z3 rfl
    refine ⟨?_, rfl⟩
    have q : decide (wr (addr - fr) < size) = true := q
    unfold withinF; rw [q]; rfl
  · refine ⟨?_, rfl⟩
    have q : decide (wr (addr - fr) < size) = false := q
    unfold withinF; rw [q]; rfl
theorem bne_t {a b : Int} (h : (a != b) = true) : a ≠ b := by simpa using h
theorem bne_f {a b : Int} (h : (a != b) = false) : a = b := by simpa using h
theorem reach_tail {addr data : Int} {op al fl : Int} {k k2 : Nat} {w6 : World} (hh : Hush W w6) (h1 : w6.cell? ⟨k, 0, none⟩ = some (.int .u32 addr)) (h2 : w6.cell? ⟨k2, 0, none⟩ = some (.int .u32 (wr (alu.sizeF op))))
    (hal : al = if isLd op then 4 else 6) (hfl : fl = if isLd op then 5 else 7) :
    ∃ z4 : Int, w6.cell? ⟨k, 0, none⟩ = some (.int .u32 z4) ∧ ∃ z5 : Int, w6.cell? ⟨k2, 0, none⟩ = some (.int .u32 z5) ∧ ∀ z6 : Int, z6 = IntKind.wrap .u32 (z5 - 1) → ∀ z7 : Int, z7 = IntKind.wrap .u32 ((BitVec.ofInt (IntKind.bits .u32) z4 &&& BitVec.ofInt (IntKind.bits .u32) z6).toNat : Int) →
      Sx.split (z7 != 0) ((fun e w => e = Ending.returned (.int .i64 (reachF op addr data)) ∧ Hush W w) (.returned (.int .i64 al)) w6)
        (∀ z8 : Int, z8 = IntKind.wrap .u32 data → Calls Tryz.prog 78 #[.int .u32 65536, .int .u32 z8, .pointer (some ⟨k, 0, none⟩), .pointer (some ⟨k2, 0, none⟩)] w6 fun e3 w7 =>
          ∃ t : Bool, e3 = .returned (.bool t) ∧ Sx.split t ((fun e w => e = Ending.returned (.int .i64 (reachF op addr data)) ∧ Hush W w) (.returned (.int .i64 (-1))) w7)
            (Sx.split (classP op == 5) (Calls Tryz.prog 78 #[.int .u32 131072, .int .u32 4, .pointer (some ⟨k, 0, none⟩), .pointer (some ⟨k2, 0, none⟩)] w7 fun e4 w8 =>
              ∃ t2 : Bool, e4 = .returned (.bool t2) ∧ Sx.split t2 ((fun e w => e = Ending.returned (.int .i64 (reachF op addr data)) ∧ Hush W w) (.returned (.int .i64 (-1))) w8) ((fun e w => e = Ending.returned (.int .i64 (reachF op addr data)) ∧ Hush W w) (.returned (.int .i64 fl)) w8))
              ((fun e w => e = Ending.returned (.int .i64 (reachF op addr data)) ∧ Hush W w) (.returned (.int .i64 fl)) w7))) := by
  refine ⟨_, h1, _, h2, ?_⟩
  rintro z6 rfl z7 rfl
  refine split_of (fun q => ?_) (fun q => ?_)
  · have q : and32 addr (wr (wr (alu.sizeF op) - 1)) ≠ 0 := bne_t q
    refine ⟨?_, hh⟩
    unfold reachF; rw [if_pos q, hal]
  · have q : ¬ and32 addr (wr (wr (alu.sizeF op) - 1)) ≠ 0 := fun h => h (bne_f q)
    rintro z8 rfl
    refine (within1_any 65536 _ h1 h2).mono ?_
    rintro e w7 ⟨rfl, rfl⟩
    refine ⟨_, rfl, split_of (fun q2 => ?_) (fun q2 => split_of (fun q3 => ?_) (fun q3 => ?_))⟩
    · have q2 : withinF addr (wr (alu.sizeF op)) 65536 (wr data) = true := q2
      refine ⟨?_, hh⟩
      unfold reachF; rw [if_neg q, if_pos q2]
    · have q3 := beq_i q3
      refine (within1_any 131072 4 h1 h2).mono ?_
      rintro e w8 ⟨rfl, rfl⟩
      refine ⟨_, rfl, split_of (fun q4 => ?_) (fun q4 => ?_)⟩
      · refine ⟨?_, hh⟩
        unfold reachF; rw [if_neg q, if_neg (by rw [show withinF addr (wr (alu.sizeF op)) 65536 (wr data) = false from q2]; decide), if_pos ⟨q3, q4⟩]
      · refine ⟨?_, hh⟩
        unfold reachF; rw [if_neg q, if_neg (by rw [show withinF addr (wr (alu.sizeF op)) 65536 (wr data) = false from q2]; decide), if_neg (by rintro ⟨-, h⟩; rw [q4] at h; cases h), hfl]
    · have q3 := bne_i q3
      refine ⟨?_, hh⟩
      unfold reachF; rw [if_neg q, if_neg (by rw [show withinF addr (wr (alu.sizeF op)) 65536 (wr data) = false from q2]; decide), if_neg (by rintro ⟨h, -⟩; exact q3 h), hfl]
theorem reach_any (hT : Tabs B W) (op addr data : Int) : Calls Tryz.prog 34 #[.int .i64 op, .int .u32 addr, .int .i64 data] W fun e w => e = .returned (.int .i64 (reachF op addr data)) ∧ Hush W w := by
  refine vc34 op addr data ((St.nil W).al fun k w2 H => H.callp (size_q op w2) ⟨_, rfl, ?_⟩)
  rintro z rfl
  refine H.al fun k2 w4 H => H.st 1 rfl (show 0 < 1 by decide) fun w5 H => H.callq (class_q (hT.st H (fun _ e => e.elim)) op) fun w6 H => ⟨_, rfl, split_of (fun q => ?_) (fun q => split_of (fun q2 => ?_) (fun q2 => ?_))⟩
  · have q := beq_i q
    have hi : isLd op = true := by unfold isLd; rw [decide_eq_true q]; rfl
    exact reach_tail H.quiet' (H.ld 0 rfl rfl) (H.ld 1 rfl rfl) (by rw [hi]; rfl) (by rw [hi]; rfl)
  · have q2 := beq_i q2
    have hi : isLd op = true := by unfold isLd; rw [decide_eq_true q2, Bool.or_true]
    exact reach_tail H.quiet' (H.ld 0 rfl rfl) (H.ld 1 rfl rfl) (by rw [hi]; rfl) (by rw [hi]; rfl)
  · have q := bne_i q
    have q2 := bne_i q2
    have hi : isLd op = false := by unfold isLd; rw [decide_eq_false q, decide_eq_false q2]; rfl
    exact reach_tail H.quiet' (H.ld 0 rfl rfl) (H.ld 1 rfl rfl) (by rw [hi]; rfl) (by rw [hi]; rfl)
end Go.Proofs.YtcpmgklhfpcaeaaGreatDoor
