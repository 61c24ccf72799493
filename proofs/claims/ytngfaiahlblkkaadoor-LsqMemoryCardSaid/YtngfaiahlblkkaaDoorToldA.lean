/- Told: the number of an error. -/
import Derived.Test.YtngfaiahlblkkaaDoorRows
import Derived.Test.YtngfaiahlblkkaaDoorXHeap
import Derived.WalkLawsBesides
import Derived.RegionTactic
import Derived.BigRegion
import Derived.Outline
import Derived.Stop.Asserts
import Derived.Laws.LoneSync
import Derived.Lib.ReflectliteSlice
namespace Go.Proofs.YtngfaiahlblkkaaDoor
open Go.RowKit Go.XHeap
set_option linter.unusedVariables false

theorem f22_ptr (p : Addr) (w : World) : (callFunc 57 #[.iface 104 (.pointer (some p))]).run Tryd.prog w = .ok (.value (.agg #[.pointer (some ⟨1, 104, none⟩), .pointer (some ⟨w.heap.size, 0, none⟩), .int .u64 150])) (w.alloc (.cells #[.pointer (some p)] 104)) := by kernel_rfl
theorem f22_int (n : Int) (w : World) : (callFunc 57 #[.iface 73 (.int .i64 n)]).run Tryd.prog w = .ok (.value (.agg #[.pointer (some ⟨1, 73, none⟩), .pointer (some ⟨w.heap.size, 0, none⟩), .int .u64 130])) (w.alloc (.cells #[.int .i64 n] 73)) := by kernel_rfl
theorem f23_ptr (a : Addr) (w : World) : (callFunc 58 #[.agg #[.pointer (some ⟨1, 104, none⟩), .pointer (some a), .int .u64 150]]).run Tryd.prog w = .ok (.value (.iface 121 (.agg #[.pointer (some ⟨1, 104, none⟩)]))) w := by kernel_rfl
theorem f28_int (n : Int) (w : World) : (callFunc 62 #[.iface 73 (.int .i64 n)]).run Tryd.prog w = .ok (.value (.iface 121 (.agg #[.pointer (some ⟨1, 73, none⟩)]))) w := by kernel_rfl
theorem meth_def (z : Sem Value) (f : TypeId → Addr → Nat → Nat → Sem Value) (v : Value) : Extern.ReflectliteValue.method z f #[v] = (do match ← Extern.ReflectliteValue.parts v with | none => z | some (t, a, fl) => f t a fl (fl % 32)) := rfl
theorem parts57 (a : Addr) (w : World) : (Extern.ReflectliteValue.parts (.agg #[.pointer (some ⟨1, 104, none⟩), .pointer (some a), .int .u64 150])).run Tryd.prog w = .ok (some (104, a, 150)) w := by kernel_rfl
theorem parts31a (a : Addr) (w : World) : (Extern.ReflectliteValue.parts (.agg #[.pointer (some ⟨1, 73, none⟩), .pointer (some a), .int .u64 386])).run Tryd.prog w = .ok (some (73, a, 386)) w := by kernel_rfl
theorem parts31b (a : Addr) (w : World) : (Extern.ReflectliteValue.parts (.agg #[.pointer (some ⟨1, 73, none⟩), .pointer (some a), .int .u64 130])).run Tryd.prog w = .ok (some (73, a, 130)) w := by kernel_rfl
theorem elem57 (w : World) : (Extern.Rtype.elem? 104).run Tryd.prog w = .ok (some 73) w := by kernel_rfl
theorem mk31 (p : Addr) (w : World) : (Extern.ReflectliteValue.mk 73 p 256).run Tryd.prog w = .ok (.agg #[.pointer (some ⟨1, 73, none⟩), .pointer (some p), .int .u64 386]) w := by kernel_rfl
theorem load57 (a p : Addr) (w : World) (h : w.cell? a = some (.pointer (some p))) : (loadVar 104 a).run Tryd.prog w = .ok (.pointer (some p)) w := by
  simp [loadVar, isAgg, underlying, Tryd.underlying104, h, Result.andThen]
theorem load31 (a : Addr) (n : Int) (w : World) (h : w.cell? a = some (.int .i64 n)) : (loadVar 73 a).run Tryd.prog w = .ok (.int .i64 n) w := by
  simp [loadVar, isAgg, underlying, Tryd.underlying73, h, Result.andThen]
theorem f24_ptr (a p : Addr) (w : World) (h : w.cell? a = some (.pointer (some p))) : (callFunc 59 #[.agg #[.pointer (some ⟨1, 104, none⟩), .pointer (some a), .int .u64 150]]).run Tryd.prog w = .ok (.value (.bool false)) w := by
  rw [run_callFunc_extern Tryd.func59 (by kernel_rfl) (by kernel_rfl) (by kernel_rfl) (e := Extern.ReflectliteValue.method (Extern.ReflectliteValue.valueError "reflectlite.Value.IsNil" 0) Extern.ReflectliteValue.isNil) (by kernel_rfl), meth_def]
  simp only [Sem.run_bind, parts57, Result.andThen]
  simp [Extern.ReflectliteValue.isNil, load57 a p w h, Result.andThen]
theorem f29_ptr (a p : Addr) (w : World) (h : w.cell? a = some (.pointer (some p))) : (callFunc 63 #[.agg #[.pointer (some ⟨1, 104, none⟩), .pointer (some a), .int .u64 150]]).run Tryd.prog w = .ok (.value (.agg #[.pointer (some ⟨1, 73, none⟩), .pointer (some p), .int .u64 386])) w := by
  rw [run_callFunc_extern Tryd.func63 (by kernel_rfl) (by kernel_rfl) (by kernel_rfl) (e := Extern.ReflectliteValue.method (Extern.ReflectliteValue.valueError "reflectlite.Value.Elem" 0) Extern.ReflectliteValue.elem) (by kernel_rfl), meth_def]
  simp only [Sem.run_bind, parts57, Result.andThen]
  simp [Extern.ReflectliteValue.elem, load57 a p w h, elem57, mk31, Extern.ReflectliteValue.flagAddr, Result.andThen]
end Go.Proofs.YtngfaiahlblkkaaDoor
