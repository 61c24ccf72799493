/- Part B of the proofs over 'predict': the predictor in the heap; small functions. No condition. -/
import Derived.Test.YtgcakilmmeopaaaDoorA
namespace Go.Proofs.YtgcakilmmeopaaaDoor
open Go.RowKit Go.XHeap Go.Sx
set_option linter.unusedVariables false
set_option maxRecDepth 100000

/-! ### a number out of a range -/
def pk (c n : Int) : Int := if c < 0 then (-(c + 1)).tmod n else c.tmod n
theorem pk_bound (c n : Int) (hn : 0 < n) : 0 ≤ pk c n ∧ pk c n < n := by
  unfold pk
  split
  · exact ⟨Int.tmod_nonneg _ (by omega), Int.tmod_lt_of_pos _ hn⟩
  · exact ⟨Int.tmod_nonneg _ (by omega), Int.tmod_lt_of_pos _ hn⟩
theorem within_any (W : World) (n lo hi : Int) : Calls Tryd.prog 20 #[.int .i64 n, .int .i64 lo, .int .i64 hi] W fun e w => e = .returned (.bool (decide (n ≥ lo) && decide (n ≤ hi))) ∧ w = W := by
  refine vc20 n lo hi (split_of (fun q => ⟨by rw [q]; rfl, rfl⟩) (fun q => ⟨by rw [q]; rfl, rfl⟩))
/-! ### the predictor -/
def u32s (l : List Int) : List Value := l.map (.int .u32)
theorem u32s_len (l : List Int) : (u32s l).length = l.length := by simp [u32s]
structure PS where
  dir : Value
  hist : Int
  mask : Int
  tb : Nat
  tn : Nat
  tcap : Nat
  tc : Array Value
  sb : Nat
  scap : Nat
  stack : List Int
  top : Nat
def PS.own (b : Nat) (S : PS) (k : Nat) : Prop := k = b ∨ k = S.tb ∨ k = S.sb
structure PredAt (w : World) (b : Nat) (S : PS) : Prop where
  root : Blk w b #[S.dir, .int .i64 S.hist, .int .i64 S.mask, .slice (some ⟨S.tb, 0, none⟩) S.tn S.tcap, .slice (some ⟨S.sb, 0, none⟩) S.stack.length S.scap, .int .i64 S.top] 72
  tgt : Blk w S.tb S.tc 87
  stk : Blk w S.sb (u32s S.stack).toArray 35
  d1 : b ≠ S.tb
  d2 : b ≠ S.sb
  d3 : S.tb ≠ S.sb
  tlt : S.top < S.stack.length
  slen : S.stack.length ≤ 16
theorem PredAt.keep {w w' : World} {b : Nat} {S : PS} {T : Nat → Prop} (h : PredAt w b S) (ht : XTouch T w w') (hn : ∀ k, S.own b k → ¬ T k) : PredAt w' b S :=
  ⟨h.root.keep ht (hn _ (.inl rfl)), h.tgt.keep ht (hn _ (.inr (.inl rfl))), h.stk.keep ht (hn _ (.inr (.inr rfl))), h.d1, h.d2, h.d3, h.tlt, h.slen⟩
theorem PredAt.lt {w : World} {b : Nat} {S : PS} (h : PredAt w b S) : ∀ k, S.own b k → k < w.heap.size := by
  rintro k (rfl | rfl | rfl)
  · exact h.root.lt
  · exact h.tgt.lt
  · exact h.stk.lt
theorem PredAt.drew {w : World} {b : Nat} {S : PS} (h : PredAt w b S) : PredAt w.drew b S := h.keep ((XTouch.refl (fun _ => False) w).drew) (fun _ _ e => e)
theorem PredAt.setHist {w : World} {b : Nat} {S : PS} (h : PredAt w b S) (v : Int) : PredAt (w.setCell ⟨b, 1, none⟩ (.int .i64 v)) b { S with hist := v } := by
  have ht := (XTouch.refl (fun k => k = b) w).setCell (p := ⟨b, 1, none⟩) (.inl rfl) (.int .i64 v)
  exact ⟨h.root.set 1 (.int .i64 v), h.tgt.keep ht (fun e => h.d1 e.symm), h.stk.keep ht (fun e => h.d2 e.symm), h.d1, h.d2, h.d3, h.tlt, h.slen⟩
theorem PredAt.setTop {w : World} {b : Nat} {S : PS} (h : PredAt w b S) (v : Nat) (hv : v < S.stack.length) : PredAt (w.setCell ⟨b, 5, none⟩ (.int .i64 v)) b { S with top := v } := by
  have ht := (XTouch.refl (fun k => k = b) w).setCell (p := ⟨b, 5, none⟩) (.inl rfl) (.int .i64 v)
  exact ⟨h.root.set 5 (.int .i64 v), h.tgt.keep ht (fun e => h.d1 e.symm), h.stk.keep ht (fun e => h.d2 e.symm), h.d1, h.d2, h.d3, hv, h.slen⟩
theorem PredAt.setStack {w : World} {b : Nat} {S : PS} (h : PredAt w b S) (i : Nat) (v : Int) : PredAt (w.setCell ⟨S.sb, i, none⟩ (.int .u32 v)) b { S with stack := S.stack.set i v } := by
  have ht := (XTouch.refl (fun k => k = S.sb) w).setCell (p := ⟨S.sb, i, none⟩) (.inl rfl) (.int .u32 v)
  have e : (u32s S.stack).toArray.setIfInBounds i (.int .u32 v) = (u32s (S.stack.set i v)).toArray := by
    apply Array.toList_inj.1
    simp [u32s, List.map_set]
  have e2 : (S.stack.set i v).length = S.stack.length := by simp
  refine ⟨?_, h.tgt.keep ht h.d3, ?_, h.d1, h.d2, h.d3, by show S.top < (S.stack.set i v).length; rw [e2]; exact h.tlt, by show (S.stack.set i v).length ≤ 16; rw [e2]; exact h.slen⟩
  · show Blk _ b #[S.dir, .int .i64 S.hist, .int .i64 S.mask, .slice (some ⟨S.tb, 0, none⟩) S.tn S.tcap, .slice (some ⟨S.sb, 0, none⟩) (S.stack.set i v).length S.scap, .int .i64 S.top] 72
    rw [e2]
    exact h.root.keep ht h.d2
  · have := h.stk.set i (.int .u32 v)
    rw [e] at this
    exact this
/-! ### instructions -/
structure In where
  op : Nat
  rd : Int
  rs1 : Int
  x : Int
  imm : Int
def In.cells (i : In) : Array Value := #[.int .i64 i.op, .int .i64 i.rd, .int .i64 i.rs1, .int .i64 i.x, .int .i64 i.imm]
def In.rets (i : In) : Bool := i.op == 4 && (i.rs1 == 1 && i.rd == 0)
def In.calls (i : In) : Bool := classP i.op == 3 && i.rd == 1
theorem returns_any (W : World) (i : In) : Calls Tryd.prog 23 #[.agg i.cells] W fun e w => e = .returned (.bool i.rets) ∧ XTouch (fun _ => False) W w := by
  refine vc23 i.cells ?_
  rintro k w2 rfl rfl
  have hb : Blk (W.alloc (.cells i.cells 33)) W.heap.size i.cells 33 := Blk.new W _ _
  have ht : XTouch (fun _ => False) W (W.alloc (.cells i.cells 33)) := (XTouch.refl _ W).alloc _
  have ez : (((i.op : Nat) : Int) == 4) = (i.op == 4) := by
    rw [Bool.eq_iff_iff]; simp; omega
  refine ⟨i.op, hb.cell' rfl, split_of (fun q => ?_) (fun q => ⟨by unfold In.rets; rw [← ez, q]; rfl, ht⟩)⟩
  refine ⟨i.rs1, hb.cell' rfl, split_of (fun q2 => ?_) (fun q2 => ⟨by unfold In.rets; rw [← ez, q, q2]; rfl, ht⟩)⟩
  exact ⟨i.rd, hb.cell' rfl, by unfold In.rets; rw [← ez, q, q2]; rfl, ht⟩
theorem calls_any {W : World} (hT : Tab W) (i : In) (h0 : 0 < i.op) (h1 : i.op < 68) : Calls Tryd.prog 32 #[.agg i.cells] W fun e w => e = .returned (.bool i.calls) ∧ XTouch (fun _ => False) W w := by
  refine vc32 i.cells ?_
  rintro k w2 rfl rfl
  have hb : Blk (W.alloc (.cells i.cells 33)) W.heap.size i.cells 33 := Blk.new W _ _
  have ht : XTouch (fun _ => False) W (W.alloc (.cells i.cells 33)) := (XTouch.refl _ W).alloc _
  refine ⟨i.op, hb.cell' rfl, (class_any (hT.keep ht (fun e => e) (fun e => e)) i.op h0 h1).mono ?_⟩
  rintro e w3 ⟨rfl, ht3⟩
  have hT3 := ht.trans ht3 (fun _ _ e => e)
  refine ⟨_, rfl, split_of (fun q => ⟨i.rd, (hb.keep ht3 (fun e => e)).cell' rfl, by unfold In.calls; rw [q]; rfl, hT3⟩) (fun q => ⟨by unfold In.calls; rw [q]; rfl, hT3⟩)⟩
end Go.Proofs.YtgcakilmmeopaaaDoor
