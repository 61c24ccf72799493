/- Part I: an instruction of the document as one of the program's. -/
import Derived.Test.YtnkeghnnppoopaaDoorIsaP
namespace Go.Proofs.YtnkeghnnppoopaaDoor
open Go.RowKit Go.XHeap
set_option linter.unusedVariables false

theorem Blk.newS (w : World) (o : Obj) (cs : Array Value) (t : TypeId) : Blk ((w.alloc o).alloc (.cells cs t)) (w.heap.size + 1) cs t := by
  have := Blk.new (w.alloc o) cs t
  simpa using this
def InsIs (op a b c d : Int) (w : World) (e : Ending) (w' : World) : Prop := e = .returned (ins op a b c d) ∧ Grown w w'
def readT (f x : Int) : Int × Int × Int × Int :=
  match f with
  | 0 => (0, 0, 0, 0)
  | 1 => (partF x 7 5, 0, 0, partF x 12 20)
  | 2 => (partF x 7 5, 0, 0, jumpImm x)
  | 3 => (0, partF x 15 5, partF x 20 5, branchImm x)
  | 4 => (partF x 7 5, partF x 15 5, 0, sgn x / 1048576)
  | 5 => (0, partF x 15 5, partF x 20 5, storeImm x)
  | 6 => (partF x 7 5, partF x 15 5, 0, sgn x / 1048576)
  | 7 => (partF x 7 5, partF x 15 5, 0, partF x 20 5)
  | 8 => (partF x 7 5, partF x 15 5, partF x 20 5, 0)
  | 9 => (partF x 7 5, partF x 15 5, partF x 20 5, partF x 25 2)
  | 10 => (partF x 7 5, partF x 15 5, partF x 20 5, partF x 25 2)
  | 11 => (0, 0, 0, partF x 20 8)
  | 12 => (partF x 7 5, partF x 15 5, 0, partF x 20 12)
  | 13 => (partF x 7 5, partF x 15 5, 0, partF x 20 12)
  | _ => (0, 0, 0, 0)
def ReadT (t : Int × Int × Int × Int) (w : World) (e : Ending) (w' : World) : Prop := e = .returned (ins 0 t.1 t.2.1 t.2.2.1 t.2.2.2) ∧ Grown w w'
theorem formats_ok : ((List.range 67).all fun i => decide (0 ≤ (shP (i + 1 : Nat)).1) && decide ((shP (i + 1 : Nat)).1 ≤ 13)) = true := by kernel_rfl
end Go.Proofs.YtnkeghnnppoopaaDoor
