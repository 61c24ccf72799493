/- Part I of the proofs over 'predict': the walk of the law 'PredictReturns'. No condition. -/
import Derived.Test.YtgcakilmmeopaaaDoorH
import Derived.Test.YtgcakilmmeopaaaDoorVcR
namespace Go.Proofs.YtgcakilmmeopaaaDoor
open Go.RowKit Go.XHeap Go.Sx
set_option linter.unusedVariables false
set_option maxRecDepth 100000

/-- what stands in the heap in the law -/
structure LW (W w : World) (b kc kb kp : Nat) (l : List Int) (S : PS) : Prop where
  pred : PredAt w b S
  tab : Tab w
  call : Blk w kc callI.cells 33
  back : Blk w kb backI.cells 33
  at_ : Blk w kp (u32s l).toArray 35
  touch : XTouch (fun _ => False) W w
  own : ∀ q, S.own b q → W.heap.size ≤ q ∧ q ≠ kc ∧ q ≠ kb ∧ q ≠ kp
  three : 3 ≤ W.heap.size
variable {W w w' : World} {b kc kb kp : Nat} {l : List Int} {S S' : PS}
theorem LW.keep {T : Nat → Prop} (h : LW W w b kc kb kp l S) (ht : XTouch T w w') (hn : ∀ q, T q → w.heap.size ≤ q) : LW W w' b kc kb kp l S := by
  have hw := h.touch.size
  have h3 := h.three
  refine ⟨h.pred.keep ht (fun q hq e => ?_), h.tab.keep ht (fun e => ?_) (fun e => ?_), h.call.keep ht (fun e => ?_), h.back.keep ht (fun e => ?_), h.at_.keep ht (fun e => ?_), h.touch.trans ht (fun q hq e => ?_), h.own, h3⟩
  · have := h.pred.lt q hq; have := hn q e; omega
  · have := hn _ e; omega
  · have := hn _ e; omega
  · have := h.call.lt; have := hn _ e; omega
  · have := h.back.lt; have := hn _ e; omega
  · have := h.at_.lt; have := hn _ e; omega
  · have := hn _ e; omega
theorem LW.drew (h : LW W w b kc kb kp l S) : LW W w.drew b kc kb kp l S := h.keep ((XTouch.refl (fun _ => False) w).drew) (fun _ e => e.elim)
theorem LW.moved (h : LW W w b kc kb kp l S) (hp : PredAt w' b S') (ht : XTouch (S.own b) w w') (ho : ∀ q, S'.own b q ↔ S.own b q) : LW W w' b kc kb kp l S' := by
  have h3 := h.three
  refine ⟨hp, h.tab.keep ht (fun e => ?_) (fun e => ?_), h.call.keep ht (fun e => (h.own _ e).2.1 rfl), h.back.keep ht (fun e => (h.own _ e).2.2.1 rfl), h.at_.keep ht (fun e => (h.own _ e).2.2.2 rfl), h.touch.trans ht (fun q hq e => ?_), fun q hq => h.own q ((ho q).1 hq), h3⟩
  · have := (h.own _ e).1; omega
  · have := (h.own _ e).1; omega
  · have := (h.own _ e).1; omega
/-- a guess in the law -/
theorem LW.guess (h : LW W w b kc kb kp l S) (hd : S.dir = fixedV) (pc : Int) (i : In) (h0 : 0 < i.op) (h1 : i.op < 68) (h4 : i.op = 4 → i.rets = true) :
    Calls Tryd.prog 9 #[.pointer (some ⟨b, 0, none⟩), .int .u32 pc, .agg i.cells] w fun e w' => e = .returned (.tuple #[.int .u32 (S.next pc i), .agg S.mark]) ∧ LW W w' b kc kb kp l (S.on pc i false) ∧ XTouch (S.own b) w w' := by
  have h3 := h.three
  refine (guess_any h.pred h.tab (fun q hq => by have := (h.own q hq).1; omega) hd pc i h0 h1 h4).mono ?_
  rintro e w' ⟨rfl, hp, ht⟩
  exact ⟨rfl, h.moved hp ht (own_on S pc i false b), ht⟩
theorem next_call (S : PS) (pc : Int) : S.next pc callI = IntKind.wrap .u32 (pc + 400) := by
  unfold PS.next
  rw [if_neg (by show ¬ classP 3 = 2; rw [class3]; decide), if_pos (by rfl)]
  rfl
end Go.Proofs.YtgcakilmmeopaaaDoor
