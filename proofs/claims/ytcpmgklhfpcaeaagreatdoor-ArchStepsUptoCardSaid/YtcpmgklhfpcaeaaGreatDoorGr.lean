/- What calls that write nothing old keep: blocks, tape, output. A name of its own (it shadows the kit's), so that texts over the kit's walk hand on 'XTouch'. No condition. -/
import Derived.Test.YtcpmgklhfpcaeaaGreatDoorXHeap
namespace Go.Proofs.YtcpmgklhfpcaeaaGreatDoor
open Go.RowKit Go.XHeap
set_option linter.unusedVariables false

/-- of what was there nothing turns -/
def Grown (W w : World) : Prop := XTouch (fun _ => False) W w
theorem Grown.refl (W : World) : Grown W W := XTouch.refl _ W
theorem Grown.alloc {W w : World} (h : Grown W w) (c : Array Value) (t : TypeId) : Grown W (w.alloc (.cells c t)) := XTouch.alloc h _
theorem Grown.setCell {W w : World} (h : Grown W w) {a : Addr} (ha : W.heap.size ≤ a.block) (v : Value) : Grown W (w.setCell a v) := XTouch.setCell h (.inr ha) v
theorem Grown.drew {W w : World} (h : Grown W w) : Grown W w.drew := XTouch.drew h
theorem grown_dr {a w : World} (h : Grown a w) (n : Nat) : Grown a (w.drewN n) := XTouch.drewN h n
theorem grown_trans {a b c : World} (h1 : Grown a b) (h2 : Grown b c) : Grown a c := XTouch.trans h1 h2 (fun _ _ e => e)
theorem grown_cell {a b : World} (h : Grown a b) {g o : Nat} {v : Value} (hc : a.cell? ⟨g, o, none⟩ = some v) : b.cell? ⟨g, o, none⟩ = some v :=
  (XTouch.cell h (World.block_lt_of_cell? _ _ hc) (fun f => f)).trans hc
theorem blk_grown {w w' : World} {k : Nat} {cs : Array Value} {t : TypeId} (h : Blk w k cs t) (hg : Grown w w') : Blk w' k cs t := h.keep hg (fun e => e)
theorem grown_frozen {a b : World} (h : Grown a b) {g o : Nat} {v : Value} (hc : a.cell? ⟨g, o, none⟩ = some v) : b.frozen? ⟨g, o, none⟩ = a.frozen? ⟨g, o, none⟩ := by
  have hl := World.block_lt_of_cell? _ _ hc
  simp only [World.frozen?]
  rw [XTouch.block h g hl (fun e => e)]
end Go.Proofs.YtcpmgklhfpcaeaaGreatDoor
