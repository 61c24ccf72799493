/- Part I: an instruction of the document as one of the program's. -/
import Derived.Test.YtcpmgklhfpcaeaaGreatDoorIsaP
namespace Go.Proofs.YtcpmgklhfpcaeaaGreatDoor
open Go.RowKit Go.XHeap
set_option linter.unusedVariables false
set_option maxRecDepth 100000

theorem Blk.newS (w : World) (o : Obj) (cs : Array Value) (t : TypeId) : Blk ((w.alloc o).alloc (.cells cs t)) (w.heap.size + 1) cs t := by
  have := Blk.new (w.alloc o) cs t
  simpa using this
def InsIs (op a b c d : Int) (w : World) (e : Ending) (w' : World) : Prop := e = .returned (ins op a b c d) ∧ Grown w w'
def readT (f x : Int) : Int × Int × Int × Int :=
  match f with
  | 0 => (0, 0, 0, 0)
  | 1 => (partF x 7 5, 0, 0, partF x 12 20)
  | 2 => (partF x 7 5, 0, 0, jumpImm x)
  | 3 => (0, partF x 15 5, partF x 20 5, branchImm x)
  | 4 => (partF x 7 5, partF x 15 5, 0, sgn x / 1048576)
  | 5 => (0, partF x 15 5, partF x 20 5, storeImm x)
  | 6 => (partF x 7 5, partF x 15 5, 0, sgn x / 1048576)
  | 7 => (partF x 7 5, partF x 15 5, 0, partF x 20 5)
  | 8 => (partF x 7 5, partF x 15 5, partF x 20 5, 0)
  | 9 => (partF x 7 5, partF x 15 5, partF x 20 5, partF x 25 2)
  | 10 => (partF x 7 5, partF x 15 5, partF x 20 5, partF x 25 2)
  | 11 => (0, 0, 0, partF x 20 8)
  | 12 => (partF x 7 5, partF x 15 5, 0, partF x 20 12)
  | 13 => (partF x 7 5, partF x 15 5, 0, partF x 20 12)
  | _ => (0, 0, 0, 0)
def ReadT (t : Int × Int × Int × Int) (w : World) (e : Ending) (w' : World) : Prop := e = .returned (ins 0 t.1 t.2.1 t.2.2.1 t.2.2.2) ∧ Grown w w'
theorem formats_ok : ((List.range 67).all fun i => decide (0 ≤ (shP (i + 1 : Nat)).1) && decide ((shP (i + 1 : Nat)).1 ≤ 13)) = true := by kernel_rfl
theorem read_any (op : Int) (h1 : 1 ≤ op) (h2 : op ≤ 67) (x : Int) (hx0 : 0 ≤ x) (hx1 : x < 4294967296) (w : World) : Calls Tryz.prog 77 #[.int .i64 (shP op).1, .int .u32 x] w (ReadT (readT (shP op).1 x) w) := by
  have h := List.all_eq_true.1 formats_ok (op.toNat - 1) (List.mem_range.2 (by omega))
  simp only [Bool.and_eq_true, decide_eq_true_eq] at h
  have e : ((op.toNat - 1 + 1 : Nat) : Int) = op := by omega
  rw [e] at h
  generalize (shP op).1 = f at *
  obtain ⟨f0, f1⟩ := h
  rcases (by omega : f = 0 ∨ f = 1 ∨ f = 2 ∨ f = 3 ∨ f = 4 ∨ f = 5 ∨ f = 6 ∨ f = 7 ∨ f = 8 ∨ f = 9 ∨ f = 10 ∨ f = 11 ∨ f = 12 ∨ f = 13) with rfl | rfl | rfl | rfl | rfl | rfl | rfl | rfl | rfl | rfl | rfl | rfl | rfl | rfl
  · exact read_0 x hx0 hx1 w
  · exact read_1 x hx0 hx1 w
  · exact read_2 x hx0 hx1 w
  · exact read_3 x hx0 hx1 w
  · exact read_4 x hx0 hx1 w
  · exact read_5 x hx0 hx1 w
  · exact read_6 x hx0 hx1 w
  · exact read_7 x hx0 hx1 w
  · exact read_8 x hx0 hx1 w
  · exact read_9 x hx0 hx1 w
  · exact read_10 x hx0 hx1 w
  · exact read_11 x hx0 hx1 w
  · exact read_12 x hx0 hx1 w
  · exact read_13 x hx0 hx1 w
end Go.Proofs.YtcpmgklhfpcaeaaGreatDoor
