/- Told: the number of an error. -/
import Derived.Test.YtbiogceijdcoiaaDoorRows
import Derived.Test.YtbiogceijdcoiaaDoorXHeap
import Derived.WalkLawsBesides
import Derived.RegionTactic
import Derived.BigRegion
import Derived.Outline
import Derived.Stop.Asserts
import Derived.Laws.LoneSync
import Derived.Lib.ReflectliteSlice
import Derived.Test.YtbiogceijdcoiaaDoorToldA
namespace Go.Proofs.YtbiogceijdcoiaaDoor
open Go.RowKit Go.XHeap
set_option linter.unusedVariables false

theorem set31 (p b : Addr) (w : World) : (Extern.ReflectliteValue.set #[.agg #[.pointer (some ⟨1, 62, none⟩), .pointer (some p), .int .u64 386], .agg #[.pointer (some ⟨1, 62, none⟩), .pointer (some b), .int .u64 130]]).run Tryd.prog w = (do let v ← loadVar 62 b; storeVar 62 p v; pure (.tuple #[]) : Sem Value).run Tryd.prog w := by kernel_rfl
theorem store31 (p : Addr) (n m : Int) (w : World) (hp : w.cell? p = some (.int .i64 m)) (hz : w.frozen? p = false) : (storeVar 62 p (.int .i64 n)).run Tryd.prog w = .ok () (w.setCell p (.int .i64 n)) := by
  simp [storeVar, hp, hz, go_sem, Result.andThen]
theorem f30_int (p b : Addr) (n m : Int) (w : World) (hb : w.cell? b = some (.int .i64 n)) (hp : w.cell? p = some (.int .i64 m)) (hz : w.frozen? p = false) :
    (callFunc 63 #[.agg #[.pointer (some ⟨1, 62, none⟩), .pointer (some p), .int .u64 386], .agg #[.pointer (some ⟨1, 62, none⟩), .pointer (some b), .int .u64 130]]).run Tryd.prog w = .ok (.value (.tuple #[])) (w.setCell p (.int .i64 n)) := by
  rw [run_callFunc_extern Tryd.func63 (by kernel_rfl) (by kernel_rfl) (by kernel_rfl) (e := Extern.ReflectliteValue.set) (by kernel_rfl)]
  rw [set31]
  simp only [Sem.run_bind, load31 b n w hb, store31 p n m w hp hz, Result.andThen]
  rfl
theorem mKind57 (w : World) : (method 291 150 (.agg #[.pointer (some ⟨1, 110, none⟩)]) "Kind").run Tryd.prog w = .ok (78, .pointer (some ⟨1, 110, none⟩)) w := by kernel_rfl
theorem mKind31 (w : World) : (method 291 150 (.agg #[.pointer (some ⟨1, 62, none⟩)]) "Kind").run Tryd.prog w = .ok (78, .pointer (some ⟨1, 62, none⟩)) w := by kernel_rfl
theorem mElem57 (w : World) : (method 291 150 (.agg #[.pointer (some ⟨1, 110, none⟩)]) "Elem").run Tryd.prog w = .ok (88, .agg #[.pointer (some ⟨1, 110, none⟩)]) w := by kernel_rfl
theorem mImpl31 (w : World) : (method 291 150 (.agg #[.pointer (some ⟨1, 62, none⟩)]) "Implements").run Tryd.prog w = .ok (89, .agg #[.pointer (some ⟨1, 62, none⟩)]) w := by kernel_rfl
theorem mAssign31 (w : World) : (method 291 150 (.agg #[.pointer (some ⟨1, 62, none⟩)]) "AssignableTo").run Tryd.prog w = .ok (86, .agg #[.pointer (some ⟨1, 62, none⟩)]) w := by kernel_rfl
theorem cKind57 (w : World) : (callFunc 78 #[.pointer (some ⟨1, 110, none⟩)]).run Tryd.prog w = .ok (.value (.int .u8 22)) w := by kernel_rfl
theorem cKind31 (w : World) : (callFunc 78 #[.pointer (some ⟨1, 62, none⟩)]).run Tryd.prog w = .ok (.value (.int .u8 2)) w := by kernel_rfl
theorem cElem57 (w : World) : (callFunc 88 #[.agg #[.pointer (some ⟨1, 110, none⟩)]]).run Tryd.prog w = .ok (.value (.iface 150 (.agg #[.pointer (some ⟨1, 62, none⟩)]))) w := by kernel_rfl
theorem cImpl31 (w : World) : (callFunc 89 #[.agg #[.pointer (some ⟨1, 62, none⟩)], .iface 150 (.agg #[.pointer (some ⟨1, 33, none⟩)])]).run Tryd.prog w = .ok (.value (.bool true)) w := by kernel_rfl
theorem cAssign31 (w : World) : (callFunc 86 #[.agg #[.pointer (some ⟨1, 62, none⟩)], .iface 150 (.agg #[.pointer (some ⟨1, 62, none⟩)])]).run Tryd.prog w = .ok (.value (.bool true)) w := by kernel_rfl
end Go.Proofs.YtbiogceijdcoiaaDoor
