/- Told: the number of an error. -/
import Derived.Test.YtbiogceijdcoiaaDoorRows
import Derived.Test.YtbiogceijdcoiaaDoorXHeap
import Derived.WalkLawsBesides
import Derived.RegionTactic
import Derived.BigRegion
import Derived.Outline
import Derived.Stop.Asserts
import Derived.Laws.LoneSync
import Derived.Lib.ReflectliteSlice
namespace Go.Proofs.YtbiogceijdcoiaaDoor
open Go.RowKit Go.XHeap
set_option linter.unusedVariables false

theorem f22_ptr (p : Addr) (w : World) : (callFunc 55 #[.iface 110 (.pointer (some p))]).run Tryd.prog w = .ok (.value (.agg #[.pointer (some ⟨1, 110, none⟩), .pointer (some ⟨w.heap.size, 0, none⟩), .int .u64 150])) (w.alloc (.cells #[.pointer (some p)] 110)) := by kernel_rfl
theorem f22_int (n : Int) (w : World) : (callFunc 55 #[.iface 62 (.int .i64 n)]).run Tryd.prog w = .ok (.value (.agg #[.pointer (some ⟨1, 62, none⟩), .pointer (some ⟨w.heap.size, 0, none⟩), .int .u64 130])) (w.alloc (.cells #[.int .i64 n] 62)) := by kernel_rfl
theorem f23_ptr (a : Addr) (w : World) : (callFunc 56 #[.agg #[.pointer (some ⟨1, 110, none⟩), .pointer (some a), .int .u64 150]]).run Tryd.prog w = .ok (.value (.iface 150 (.agg #[.pointer (some ⟨1, 110, none⟩)]))) w := by kernel_rfl
theorem f28_int (n : Int) (w : World) : (callFunc 61 #[.iface 62 (.int .i64 n)]).run Tryd.prog w = .ok (.value (.iface 150 (.agg #[.pointer (some ⟨1, 62, none⟩)]))) w := by kernel_rfl
theorem meth_def (z : Sem Value) (f : TypeId → Addr → Nat → Nat → Sem Value) (v : Value) : Extern.ReflectliteValue.method z f #[v] = (do match ← Extern.ReflectliteValue.parts v with | none => z | some (t, a, fl) => f t a fl (fl % 32)) := rfl
theorem parts57 (a : Addr) (w : World) : (Extern.ReflectliteValue.parts (.agg #[.pointer (some ⟨1, 110, none⟩), .pointer (some a), .int .u64 150])).run Tryd.prog w = .ok (some (110, a, 150)) w := by kernel_rfl
theorem parts31a (a : Addr) (w : World) : (Extern.ReflectliteValue.parts (.agg #[.pointer (some ⟨1, 62, none⟩), .pointer (some a), .int .u64 386])).run Tryd.prog w = .ok (some (62, a, 386)) w := by kernel_rfl
theorem parts31b (a : Addr) (w : World) : (Extern.ReflectliteValue.parts (.agg #[.pointer (some ⟨1, 62, none⟩), .pointer (some a), .int .u64 130])).run Tryd.prog w = .ok (some (62, a, 130)) w := by kernel_rfl
theorem elem57 (w : World) : (Extern.Rtype.elem? 110).run Tryd.prog w = .ok (some 62) w := by kernel_rfl
theorem mk31 (p : Addr) (w : World) : (Extern.ReflectliteValue.mk 62 p 256).run Tryd.prog w = .ok (.agg #[.pointer (some ⟨1, 62, none⟩), .pointer (some p), .int .u64 386]) w := by kernel_rfl
theorem load57 (a p : Addr) (w : World) (h : w.cell? a = some (.pointer (some p))) : (loadVar 110 a).run Tryd.prog w = .ok (.pointer (some p)) w := by
  simp [loadVar, isAgg, underlying, Tryd.underlying110, h, Result.andThen]
theorem load31 (a : Addr) (n : Int) (w : World) (h : w.cell? a = some (.int .i64 n)) : (loadVar 62 a).run Tryd.prog w = .ok (.int .i64 n) w := by
  simp [loadVar, isAgg, underlying, Tryd.underlying62, h, Result.andThen]
theorem f24_ptr (a p : Addr) (w : World) (h : w.cell? a = some (.pointer (some p))) : (callFunc 57 #[.agg #[.pointer (some ⟨1, 110, none⟩), .pointer (some a), .int .u64 150]]).run Tryd.prog w = .ok (.value (.bool false)) w := by
  rw [run_callFunc_extern Tryd.func57 (by kernel_rfl) (by kernel_rfl) (by kernel_rfl) (e := Extern.ReflectliteValue.method (Extern.ReflectliteValue.valueError "reflectlite.Value.IsNil" 0) Extern.ReflectliteValue.isNil) (by kernel_rfl), meth_def]
  simp only [Sem.run_bind, parts57, Result.andThen]
  simp [Extern.ReflectliteValue.isNil, load57 a p w h, Result.andThen]
theorem f29_ptr (a p : Addr) (w : World) (h : w.cell? a = some (.pointer (some p))) : (callFunc 62 #[.agg #[.pointer (some ⟨1, 110, none⟩), .pointer (some a), .int .u64 150]]).run Tryd.prog w = .ok (.value (.agg #[.pointer (some ⟨1, 62, none⟩), .pointer (some p), .int .u64 386])) w := by
  rw [run_callFunc_extern Tryd.func62 (by kernel_rfl) (by kernel_rfl) (by kernel_rfl) (e := Extern.ReflectliteValue.method (Extern.ReflectliteValue.valueError "reflectlite.Value.Elem" 0) Extern.ReflectliteValue.elem) (by kernel_rfl), meth_def]
  simp only [Sem.run_bind, parts57, Result.andThen]
  simp [Extern.ReflectliteValue.elem, load57 a p w h, elem57, mk31, Extern.ReflectliteValue.flagAddr, Result.andThen]
end Go.Proofs.YtbiogceijdcoiaaDoor
