/- Told: the number of an error. -/
import Derived.Test.YtngfaiahlblkkaaDoorRows
import Derived.Test.YtngfaiahlblkkaaDoorXHeap
import Derived.WalkLawsBesides
import Derived.RegionTactic
import Derived.BigRegion
import Derived.Outline
import Derived.Stop.Asserts
import Derived.Laws.LoneSync
import Derived.Lib.ReflectliteSlice
import Derived.Test.YtngfaiahlblkkaaDoorToldA
namespace Go.Proofs.YtngfaiahlblkkaaDoor
open Go.RowKit Go.XHeap
set_option linter.unusedVariables false

theorem set31 (p b : Addr) (w : World) : (Extern.ReflectliteValue.set #[.agg #[.pointer (some ⟨1, 73, none⟩), .pointer (some p), .int .u64 386], .agg #[.pointer (some ⟨1, 73, none⟩), .pointer (some b), .int .u64 130]]).run Tryd.prog w = (do let v ← loadVar 73 b; storeVar 73 p v; pure (.tuple #[]) : Sem Value).run Tryd.prog w := by kernel_rfl
theorem store31 (p : Addr) (n m : Int) (w : World) (hp : w.cell? p = some (.int .i64 m)) (hz : w.frozen? p = false) : (storeVar 73 p (.int .i64 n)).run Tryd.prog w = .ok () (w.setCell p (.int .i64 n)) := by
  simp [storeVar, hp, hz, go_sem, Result.andThen]
theorem f30_int (p b : Addr) (n m : Int) (w : World) (hb : w.cell? b = some (.int .i64 n)) (hp : w.cell? p = some (.int .i64 m)) (hz : w.frozen? p = false) :
    (callFunc 64 #[.agg #[.pointer (some ⟨1, 73, none⟩), .pointer (some p), .int .u64 386], .agg #[.pointer (some ⟨1, 73, none⟩), .pointer (some b), .int .u64 130]]).run Tryd.prog w = .ok (.value (.tuple #[])) (w.setCell p (.int .i64 n)) := by
  rw [run_callFunc_extern Tryd.func64 (by kernel_rfl) (by kernel_rfl) (by kernel_rfl) (e := Extern.ReflectliteValue.set) (by kernel_rfl)]
  rw [set31]
  simp only [Sem.run_bind, load31 b n w hb, store31 p n m w hp hz, Result.andThen]
  rfl
theorem mKind57 (w : World) : (method 261 121 (.agg #[.pointer (some ⟨1, 104, none⟩)]) "Kind").run Tryd.prog w = .ok (79, .pointer (some ⟨1, 104, none⟩)) w := by kernel_rfl
theorem mKind31 (w : World) : (method 261 121 (.agg #[.pointer (some ⟨1, 73, none⟩)]) "Kind").run Tryd.prog w = .ok (79, .pointer (some ⟨1, 73, none⟩)) w := by kernel_rfl
theorem mElem57 (w : World) : (method 261 121 (.agg #[.pointer (some ⟨1, 104, none⟩)]) "Elem").run Tryd.prog w = .ok (89, .agg #[.pointer (some ⟨1, 104, none⟩)]) w := by kernel_rfl
theorem mImpl31 (w : World) : (method 261 121 (.agg #[.pointer (some ⟨1, 73, none⟩)]) "Implements").run Tryd.prog w = .ok (90, .agg #[.pointer (some ⟨1, 73, none⟩)]) w := by kernel_rfl
theorem mAssign31 (w : World) : (method 261 121 (.agg #[.pointer (some ⟨1, 73, none⟩)]) "AssignableTo").run Tryd.prog w = .ok (87, .agg #[.pointer (some ⟨1, 73, none⟩)]) w := by kernel_rfl
theorem cKind57 (w : World) : (callFunc 79 #[.pointer (some ⟨1, 104, none⟩)]).run Tryd.prog w = .ok (.value (.int .u8 22)) w := by kernel_rfl
theorem cKind31 (w : World) : (callFunc 79 #[.pointer (some ⟨1, 73, none⟩)]).run Tryd.prog w = .ok (.value (.int .u8 2)) w := by kernel_rfl
theorem cElem57 (w : World) : (callFunc 89 #[.agg #[.pointer (some ⟨1, 104, none⟩)]]).run Tryd.prog w = .ok (.value (.iface 121 (.agg #[.pointer (some ⟨1, 73, none⟩)]))) w := by kernel_rfl
theorem cImpl31 (w : World) : (callFunc 90 #[.agg #[.pointer (some ⟨1, 73, none⟩)], .iface 121 (.agg #[.pointer (some ⟨1, 26, none⟩)])]).run Tryd.prog w = .ok (.value (.bool true)) w := by kernel_rfl
theorem cAssign31 (w : World) : (callFunc 87 #[.agg #[.pointer (some ⟨1, 73, none⟩)], .iface 121 (.agg #[.pointer (some ⟨1, 73, none⟩)])]).run Tryd.prog w = .ok (.value (.bool true)) w := by kernel_rfl
end Go.Proofs.YtngfaiahlblkkaaDoor
