/- Part E of the proofs over 'predict': Guess of a predictor that guesses that no branch is taken. No condition. -/
import Derived.Test.YtgcakilmmeopaaaDoorD
namespace Go.Proofs.YtgcakilmmeopaaaDoor
open Go.RowKit Go.XHeap Go.Sx
set_option linter.unusedVariables false
set_option maxRecDepth 100000

theorem fixed_guess (W : World) (pc : Int) (cs : Array Value) (hi : Int) : Calls Tryd.prog 66 #[.agg #[.bool false], .int .u32 pc, .agg cs, .int .i64 hi] W fun e w => e = .returned (.bool false) ∧ XTouch (fun _ => False) W w := by
  refine vc66 _ pc cs hi ?_
  rintro k w2 rfl rfl k2 w3 rfl rfl
  refine ⟨false, ((Blk.new W #[.bool false] 79).alloc _).cell' rfl, split_of (fun q => by cases q) (fun _ => ⟨rfl, ((XTouch.refl _ W).alloc _).alloc _⟩)⟩
theorem fixed_meth (W : World) (pc : Int) (cs : Array Value) (hi : Int) : Sx.meth Tryd.prog fixedV "oocore/predict.guess" #[.int .u32 pc, .agg cs, .int .i64 hi] W 66 #[.agg #[.bool false], .int .u32 pc, .agg cs, .int .i64 hi] := by
  show Eq _ _
  kernel_rfl
/-- where the next instruction is guessed to stand -/
def PS.next (S : PS) (pc : Int) (i : In) : Int :=
  if classP i.op = 2 then IntKind.wrap .u32 (pc + 4)
  else if i.op = 3 then IntKind.wrap .u32 (pc + IntKind.wrap .u32 i.imm)
  else if i.rets then S.stack.getD S.top 0
  else IntKind.wrap .u32 (pc + 4)
def PS.mark (S : PS) : Array Value := #[.int .i64 S.hist, .int .i64 S.top, .int .u32 (S.stack.getD S.top 0)]
def zeroM : Array Value := #[.int .i64 0, .int .i64 0, .int .u32 0]
theorem mark_one (S : PS) : ∀ v ∈ S.mark.toList, v.oneCell' = true := by
  intro v hv
  simp only [PS.mark, List.mem_cons, List.not_mem_nil, or_false] at hv
  rcases hv with rfl | rfl | rfl <;> rfl
theorem own_on (S : PS) (pc : Int) (i : In) (t : Bool) (b q : Nat) : (S.on pc i t).own b q ↔ S.own b q := by
  unfold PS.on
  split
  · exact Iff.rfl
  · split
    · exact Iff.rfl
    · split
      · exact Iff.rfl
      · exact Iff.rfl
theorem guess_any {W : World} {b : Nat} {S : PS} (h : PredAt W b S) (hT : Tab W) (hlo : ∀ k, S.own b k → 3 ≤ k) (hd : S.dir = fixedV) (pc : Int) (i : In) (h0 : 0 < i.op) (h1 : i.op < 68) (h4 : i.op = 4 → i.rets = true) :
    Calls Tryd.prog 9 #[.pointer (some ⟨b, 0, none⟩), .int .u32 pc, .agg i.cells] W fun e w => e = .returned (.tuple #[.int .u32 (S.next pc i), .agg S.mark]) ∧ PredAt w b (S.on pc i false) ∧ XTouch (S.own b) W w := by
  refine vc9 b 0 pc i.cells ?_
  rintro k w2 rfl rfl k2 w3 rfl rfl w4 rfl
  have hb : Blk (((W.alloc (.cells i.cells 33)).alloc (.cells zeroM 37)).drew) W.heap.size i.cells 33 := ((Blk.new W _ _).alloc _).drew
  have hs : (W.alloc (.cells i.cells 33)).heap.size = W.heap.size + 1 := by simp
  have hb2 : Blk (((W.alloc (.cells i.cells 33)).alloc (.cells zeroM 37)).drew) (W.heap.size + 1) zeroM 37 := by
    have := (Blk.new (W.alloc (.cells i.cells 33)) zeroM 37).drew
    rw [hs] at this; exact this
  have ht : XTouch (fun _ => False) W (((W.alloc (.cells i.cells 33)).alloc (.cells zeroM 37)).drew) := (((XTouch.refl _ W).alloc _).alloc _).drew
  have es : (W.alloc (.cells (Value.agg i.cells).cells 33)).heap.size = W.heap.size + 1 := hs
  have ew : ((W.alloc (.cells (Value.agg i.cells).cells 33)).alloc (.cells #[Value.int IntKind.i64 0, Value.int IntKind.i64 0, Value.int IntKind.u32 0] 37)).drew = ((W.alloc (.cells i.cells 33)).alloc (.cells zeroM 37)).drew := rfl
  rw [es, ew]
  have hs4 : (((W.alloc (.cells i.cells 33)).alloc (.cells zeroM 37)).drew).heap.size = W.heap.size + 2 := by simp
  generalize (((W.alloc (.cells i.cells 33)).alloc (.cells zeroM 37)).drew) = w4 at hb hb2 ht hs4
  clear es ew hs
  have hp := h.keep ht (fun _ _ e => e)
  have hT4 := hT.keep ht (fun e => e) (fun e => e)
  have hlen := h.slen
  have htl := h.tlt
  have hown := h.lt
  refine ⟨S.hist, hp.root.cell' rfl, S.top, hp.root.cell' rfl, _, _, _, hp.root.cell' rfl, S.top, hp.root.cell' rfl, ⟨by omega, by omega⟩, ?_⟩
  show ∃ z4 : Int, World.cell? _ ⟨S.sb, 0 + ((S.top : Nat) : Int).toNat * 1, none⟩ = some (.int .u32 z4) ∧ _
  rw [show 0 + ((S.top : Nat) : Int).toNat * 1 = S.top by omega]
  refine ⟨S.stack.getD S.top 0, hp.stk.cell' (by rw [List.getElem?_toArray, List.getD_eq_getElem?_getD, List.getElem?_eq_getElem htl]; simp [u32s, List.getElem?_eq_getElem htl]), ?_⟩
  rintro vs rfl k7 w5 hk7 hw5
  have hk7' : k7 = W.heap.size + 2 := by rw [hk7, hs4]
  have hb7 : Blk w5 k7 zeroM 37 := by rw [hw5, hk7]; exact Blk.new w4 _ _
  have ht5 : XTouch (fun _ => False) w4 w5 := by rw [hw5]; exact (XTouch.refl _ w4).alloc _
  refine ⟨ht5.below (Nat.le_refl _) (fun _ e => e.elim), ?_⟩
  refine out_cell S.mark hb7 rfl rfl (mark_one S) ?_
  intro w6 hb6 ht6
  clear hw5
  have hX6 : XTouch (fun _ => False) W w6 := (ht.trans ht5 (fun _ _ e => e)).trans ht6 (fun q hq e => by omega)
  have hi6 := (hb.keep ht5 (fun e => e)).keep ht6 (by omega)
  have hz6 := (hb2.keep ht5 (fun e => e)).keep ht6 (by omega)
  rintro z5 rfl
  refine ⟨fun x z w => x = false ∧ z = S.next pc i ∧ Blk w W.heap.size i.cells 33 ∧ Blk w (W.heap.size + 1) zeroM 37 ∧ Blk w k7 S.mark 37 ∧ XTouch (fun _ => False) W w, ?_, fun _ => ?_⟩
  · refine ⟨i.op, hi6.cell' rfl, (class_any (hT.keep hX6 (fun e => e) (fun e => e)) i.op h0 h1).mono ?_⟩
    rintro e w7 ⟨rfl, ht7⟩
    have hX7 := hX6.trans ht7 (fun _ _ e => e)
    have hi7 := hi6.keep ht7 (fun e => e)
    have hz7 := hz6.keep ht7 (fun e => e)
    have hm7 := hb6.keep ht7 (fun e => e)
    have hp7 := h.keep hX7 (fun _ _ e => e)
    refine ⟨_, rfl, split_of (fun q => ?_) (fun q => ?_)⟩
    · have q : classP i.op = 2 := by simpa using q
      rintro w8 rfl
      refine ⟨S.dir, hp7.drew.root.cell' rfl, i.cells, rfl, cellsAt_self hi7.drew, S.hist, hp7.drew.root.cell' rfl, ?_⟩
      rw [hd]
      refine ⟨66, _, fixed_meth _ _ _ _, (fixed_guess _ _ _ _).mono ?_⟩
      rintro e w9 ⟨rfl, ht9⟩
      have hX9 := hX7.drew.trans ht9 (fun _ _ e => e)
      refine ⟨false, rfl, split_of (fun q => by cases q) (fun _ => ⟨rfl, by unfold PS.next; rw [if_pos q], hi7.drew.keep ht9 (fun e => e), hz7.drew.keep ht9 (fun e => e), hm7.drew.keep ht9 (fun e => e), hX9⟩)⟩
    · have q : ¬ classP i.op = 2 := by simpa using q
      refine ⟨i.op, hi7.cell' rfl, split_of (fun q2 => ?_) (fun q2 => ?_)⟩
      · have q2 : (i.op : Int) = 3 := by simpa using q2
        refine ⟨i.imm, hi7.cell' rfl, ?_⟩
        rintro z14 rfl z15 rfl
        exact ⟨rfl, by unfold PS.next; rw [if_neg q, if_pos (by omega)], hi7, hz7, hm7, hX7⟩
      · have q2 : ¬ (i.op : Int) = 3 := by simpa using q2
        refine ⟨i.cells, rfl, cellsAt_self hi7, (returns_any _ i).mono ?_⟩
        rintro e w10 ⟨rfl, ht10⟩
        have hX10 := hX7.trans ht10 (fun _ _ e => e)
        have hi10 := hi7.keep ht10 (fun e => e)
        have hz10 := hz7.keep ht10 (fun e => e)
        have hm10 := hm7.keep ht10 (fun e => e)
        refine ⟨_, rfl, split_of (fun q3 => ?_) (fun q3 => ?_)⟩
        · exact ⟨_, hm10.cell' rfl, rfl, by unfold PS.next; rw [if_neg q, if_neg (by omega), if_pos q3], hi10, hz10, hm10, hX10⟩
        · have q4 : ¬ i.op = 4 := fun e => by rw [h4 e] at q3; cases q3
          refine ⟨i.op, hi10.cell' rfl, split_of (fun q5 => absurd (by simpa using q5) (show ¬ (i.op : Int) = 4 by omega)) (fun _ => ?_)⟩
          exact ⟨rfl, by unfold PS.next; rw [if_neg q, if_neg (by omega), if_neg (by rw [q3]; decide)], hi10, hz10, hm10, hX10⟩
  · rintro x z w12 ⟨rfl, rfl, hi12, hz12, hm12, hX12⟩
    have hp12 := h.keep hX12 (fun _ _ e => e)
    refine ⟨i.cells, rfl, cellsAt_self hi12, (goOn_any hp12 (hT.keep hX12 (fun e => e) (fun e => e)) hlo pc i h0 h1 false).mono ?_⟩
    rintro e w13 ⟨rfl, hp13, ht13⟩
    refine ⟨rfl, ?_⟩
    rintro w14 rfl
    have nn : ∀ q, W.heap.size ≤ q → ¬ S.own b q := fun q hq e => by have := hown _ e; omega
    have hm13 := (hm12.keep ht13 (nn _ (by omega))).drew
    have hz13 := (hz12.keep ht13 (nn _ (by omega))).drew
    refine ⟨S.mark, rfl, cellsAt_self hm13, ?_⟩
    refine out_cell S.mark hz13 rfl rfl (mark_one S) ?_
    intro w15 hb15 ht15
    refine ⟨S.mark, rfl, cellsAt_self hb15, rfl, hp13.drew.keep ht15 (fun q hq e => ?_), ?_⟩
    · have eo : S.own b q := (own_on S pc i false b q).1 hq
      have := hown _ eo
      omega
    · refine XTouch.mono (S := fun q => S.own b q ∨ q = W.heap.size + 1) ?_ ?_
      · exact (((hX12.mono (fun _ _ e => e.elim)).trans ht13 (fun _ _ e => .inl e)).drew).trans ht15 (fun _ _ e => .inr e)
      · intro q hq e
        rcases e with e | e
        · exact e
        · omega
end Go.Proofs.YtgcakilmmeopaaaDoor
