import Derived.Test.YthacioiefgabbaaGreatDoorRows
import Derived.Test.YthacioiefgabbaaGreatDoorXHeap
import Derived.WalkLawsBesides
import Derived.RegionTactic
import Derived.BigRegion
import Derived.Outline
import Derived.Stop.Asserts
import Derived.Laws.LoneSync
import Derived.Lib.ReflectliteSlice
/- Told: the number of an error. -/
namespace Go.Proofs.YthacioiefgabbaaGreatDoor.told
open Go.RowKit Go.XHeap
set_option linter.unusedVariables false

theorem f22_ptr (p : Addr) (w : World) : (callFunc 26 #[.iface 59 (.pointer (some p))]).run Tryz.prog w = .ok (.value (.agg #[.pointer (some ⟨4, 59, none⟩), .pointer (some ⟨w.heap.size, 0, none⟩), .int .u64 150])) (w.alloc (.cells #[.pointer (some p)] 59)) := by kernel_rfl
theorem f22_int (n : Int) (w : World) : (callFunc 26 #[.iface 33 (.int .i64 n)]).run Tryz.prog w = .ok (.value (.agg #[.pointer (some ⟨4, 33, none⟩), .pointer (some ⟨w.heap.size, 0, none⟩), .int .u64 130])) (w.alloc (.cells #[.int .i64 n] 33)) := by kernel_rfl
theorem f23_ptr (a : Addr) (w : World) : (callFunc 27 #[.agg #[.pointer (some ⟨4, 59, none⟩), .pointer (some a), .int .u64 150]]).run Tryz.prog w = .ok (.value (.iface 164 (.agg #[.pointer (some ⟨4, 59, none⟩)]))) w := by kernel_rfl
theorem f28_int (n : Int) (w : World) : (callFunc 54 #[.iface 33 (.int .i64 n)]).run Tryz.prog w = .ok (.value (.iface 164 (.agg #[.pointer (some ⟨4, 33, none⟩)]))) w := by kernel_rfl
theorem meth_def (z : Sem Value) (f : TypeId → Addr → Nat → Nat → Sem Value) (v : Value) : Extern.ReflectliteValue.method z f #[v] = (do match ← Extern.ReflectliteValue.parts v with | none => z | some (t, a, fl) => f t a fl (fl % 32)) := rfl
theorem parts57 (a : Addr) (w : World) : (Extern.ReflectliteValue.parts (.agg #[.pointer (some ⟨4, 59, none⟩), .pointer (some a), .int .u64 150])).run Tryz.prog w = .ok (some (59, a, 150)) w := by kernel_rfl
theorem elem57 (w : World) : (Extern.Rtype.elem? 59).run Tryz.prog w = .ok (some 33) w := by kernel_rfl
theorem mk31 (p : Addr) (w : World) : (Extern.ReflectliteValue.mk 33 p 256).run Tryz.prog w = .ok (.agg #[.pointer (some ⟨4, 33, none⟩), .pointer (some p), .int .u64 386]) w := by kernel_rfl
theorem load57 (a p : Addr) (w : World) (h : w.cell? a = some (.pointer (some p))) : (loadVar 59 a).run Tryz.prog w = .ok (.pointer (some p)) w := by
  simp [loadVar, isAgg, underlying, Tryz.underlying59, h, Result.andThen]
theorem load31 (a : Addr) (n : Int) (w : World) (h : w.cell? a = some (.int .i64 n)) : (loadVar 33 a).run Tryz.prog w = .ok (.int .i64 n) w := by
  simp [loadVar, isAgg, underlying, Tryz.underlying33, h, Result.andThen]
theorem f24_ptr (a p : Addr) (w : World) (h : w.cell? a = some (.pointer (some p))) : (callFunc 28 #[.agg #[.pointer (some ⟨4, 59, none⟩), .pointer (some a), .int .u64 150]]).run Tryz.prog w = .ok (.value (.bool false)) w := by
  rw [run_callFunc_extern Tryz.func28 (by kernel_rfl) (by kernel_rfl) (by kernel_rfl) (e := Extern.ReflectliteValue.method (Extern.ReflectliteValue.valueError "reflectlite.Value.IsNil" 0) Extern.ReflectliteValue.isNil) (by kernel_rfl), meth_def]
  simp only [Sem.run_bind, parts57, Result.andThen]
  simp [Extern.ReflectliteValue.isNil, load57 a p w h, Result.andThen]
theorem f29_ptr (a p : Addr) (w : World) (h : w.cell? a = some (.pointer (some p))) : (callFunc 55 #[.agg #[.pointer (some ⟨4, 59, none⟩), .pointer (some a), .int .u64 150]]).run Tryz.prog w = .ok (.value (.agg #[.pointer (some ⟨4, 33, none⟩), .pointer (some p), .int .u64 386])) w := by
  rw [run_callFunc_extern Tryz.func55 (by kernel_rfl) (by kernel_rfl) (by kernel_rfl) (e := Extern.ReflectliteValue.method (Extern.ReflectliteValue.valueError "reflectlite.Value.Elem" 0) Extern.ReflectliteValue.elem) (by kernel_rfl), meth_def]
  simp only [Sem.run_bind, parts57, Result.andThen]
  simp [Extern.ReflectliteValue.elem, load57 a p w h, elem57, mk31, Extern.ReflectliteValue.flagAddr, Result.andThen]
end Go.Proofs.YthacioiefgabbaaGreatDoor.told
/- Told: the number of an error. -/
namespace Go.Proofs.YthacioiefgabbaaGreatDoor.told
open Go.RowKit Go.XHeap
set_option linter.unusedVariables false

theorem set31 (p b : Addr) (w : World) : (Extern.ReflectliteValue.set #[.agg #[.pointer (some ⟨4, 33, none⟩), .pointer (some p), .int .u64 386], .agg #[.pointer (some ⟨4, 33, none⟩), .pointer (some b), .int .u64 130]]).run Tryz.prog w = (do let v ← loadVar 33 b; storeVar 33 p v; pure (.tuple #[]) : Sem Value).run Tryz.prog w := by kernel_rfl
theorem store31 (p : Addr) (n m : Int) (w : World) (hp : w.cell? p = some (.int .i64 m)) (hz : w.frozen? p = false) : (storeVar 33 p (.int .i64 n)).run Tryz.prog w = .ok () (w.setCell p (.int .i64 n)) := by
  simp [storeVar, hp, hz, go_sem, Result.andThen]
theorem f30_int (p b : Addr) (n m : Int) (w : World) (hb : w.cell? b = some (.int .i64 n)) (hp : w.cell? p = some (.int .i64 m)) (hz : w.frozen? p = false) :
    (callFunc 56 #[.agg #[.pointer (some ⟨4, 33, none⟩), .pointer (some p), .int .u64 386], .agg #[.pointer (some ⟨4, 33, none⟩), .pointer (some b), .int .u64 130]]).run Tryz.prog w = .ok (.value (.tuple #[])) (w.setCell p (.int .i64 n)) := by
  rw [run_callFunc_extern Tryz.func56 (by kernel_rfl) (by kernel_rfl) (by kernel_rfl) (e := Extern.ReflectliteValue.set) (by kernel_rfl)]
  rw [set31]
  simp only [Sem.run_bind, load31 b n w hb, store31 p n m w hp hz, Result.andThen]
  rfl
theorem mKind57 (w : World) : (method 558 164 (.agg #[.pointer (some ⟨4, 59, none⟩)]) "Kind").run Tryz.prog w = .ok (296, .pointer (some ⟨4, 59, none⟩)) w := by kernel_rfl
theorem mKind31 (w : World) : (method 558 164 (.agg #[.pointer (some ⟨4, 33, none⟩)]) "Kind").run Tryz.prog w = .ok (296, .pointer (some ⟨4, 33, none⟩)) w := by kernel_rfl
theorem mElem57 (w : World) : (method 558 164 (.agg #[.pointer (some ⟨4, 59, none⟩)]) "Elem").run Tryz.prog w = .ok (306, .agg #[.pointer (some ⟨4, 59, none⟩)]) w := by kernel_rfl
theorem mImpl31 (w : World) : (method 558 164 (.agg #[.pointer (some ⟨4, 33, none⟩)]) "Implements").run Tryz.prog w = .ok (307, .agg #[.pointer (some ⟨4, 33, none⟩)]) w := by kernel_rfl
theorem mAssign31 (w : World) : (method 558 164 (.agg #[.pointer (some ⟨4, 33, none⟩)]) "AssignableTo").run Tryz.prog w = .ok (304, .agg #[.pointer (some ⟨4, 33, none⟩)]) w := by kernel_rfl
theorem cKind57 (w : World) : (callFunc 296 #[.pointer (some ⟨4, 59, none⟩)]).run Tryz.prog w = .ok (.value (.int .u8 22)) w := by kernel_rfl
theorem cKind31 (w : World) : (callFunc 296 #[.pointer (some ⟨4, 33, none⟩)]).run Tryz.prog w = .ok (.value (.int .u8 2)) w := by kernel_rfl
theorem cElem57 (w : World) : (callFunc 306 #[.agg #[.pointer (some ⟨4, 59, none⟩)]]).run Tryz.prog w = .ok (.value (.iface 164 (.agg #[.pointer (some ⟨4, 33, none⟩)]))) w := by kernel_rfl
theorem cImpl31 (w : World) : (callFunc 307 #[.agg #[.pointer (some ⟨4, 33, none⟩)], .iface 164 (.agg #[.pointer (some ⟨4, 40, none⟩)])]).run Tryz.prog w = .ok (.value (.bool true)) w := by kernel_rfl
theorem cAssign31 (w : World) : (callFunc 304 #[.agg #[.pointer (some ⟨4, 33, none⟩)], .iface 164 (.agg #[.pointer (some ⟨4, 33, none⟩)])]).run Tryz.prog w = .ok (.value (.bool true)) w := by kernel_rfl
end Go.Proofs.YthacioiefgabbaaGreatDoor.told
/- Told, part C: errors.As at a number's error, walked. -/
namespace Go.Proofs.YthacioiefgabbaaGreatDoor.told
open Go.RowKit Go.XHeap
set_option linter.unusedVariables false

theorem grown_cell {a b : World} (h : Grown a b) {g o : Nat} {v : Value} (hc : a.cell? ⟨g, o, none⟩ = some v) : b.cell? ⟨g, o, none⟩ = some v :=
  (h.1.cell (World.block_lt_of_cell? _ _ hc) (fun f => f)).trans hc
theorem grown_trans {a b c : World} (h1 : Grown a b) (h2 : Grown b c) : Grown a c :=
  ⟨World.keptBut_trans h1.1 (World.keptBut_mono (fun _ f => f.elim) h2.1), fun x => (h2.2.1 x).trans (h1.2.1 x), Nat.le_trans h1.2.2 h2.2.2⟩
def setAt (g : Nat) (n : Int) (w : World) (e : Ending) (w' : World) : Prop := e = .returned (.bool true) ∧ XTouch (fun k => k = g) w w' ∧ w'.cell? ⟨g, 0, none⟩ = some (.int .i64 n)
set_option maxRecDepth 100000 in
set_option maxHeartbeats 1000000 in
theorem as25 (n m : Int) (g a : Nat) (w : World) (ha : w.cell? ⟨a, 0, none⟩ = some (.pointer (some ⟨g, 0, none⟩))) (hp : w.cell? ⟨g, 0, none⟩ = some (.int .i64 m)) (hz : w.frozen? ⟨g, 0, none⟩ = false) :
    Calls Tryz.prog 29 #[.iface 33 (.int .i64 n), .iface 59 (.pointer (some ⟨g, 0, none⟩)), .agg #[.pointer (some ⟨4, 59, none⟩), .pointer (some ⟨a, 0, none⟩), .int .u64 150], .iface 164 (.agg #[.pointer (some ⟨4, 33, none⟩)])] w (setAt g n w) := by
  have g0 := World.block_lt_of_cell? _ _ ha
  have g1 := World.block_lt_of_cell? _ _ hp
  have F22i := f22_int n
  have F28 := f28_int n
  have M1 := mAssign31
  have C1 := cAssign31
  have F29 := fun a => f29_ptr a ⟨g, 0, none⟩
  have hG := ((Grown.refl w).alloc #[.pointer (some ⟨4, 59, none⟩), .pointer (some ⟨a, 0, none⟩), .int .u64 150] 91).alloc #[.int .i64 n] 33
  have hb : ((w.alloc (.cells #[.pointer (some ⟨4, 59, none⟩), .pointer (some ⟨a, 0, none⟩), .int .u64 150] 91)).alloc (.cells #[.int .i64 n] 33)).cell? ⟨w.heap.size + 1, 0, none⟩ = some (.int .i64 n) := by
    have := World.cell?_alloc_new (w.alloc (.cells #[.pointer (some ⟨4, 59, none⟩), .pointer (some ⟨a, 0, none⟩), .int .u64 150] 91)) #[.int .i64 n] 33 0
    simp at this ⊢
  have F30 := f30_int ⟨g, 0, none⟩ ⟨w.heap.size + 1, 0, none⟩ n m _ hb (grown_cell hG hp) ((hG.2.1 _).trans hz)
  have hk : (w.setCell ⟨g, 0, none⟩ (.int .i64 n)).cell? ⟨g, 0, none⟩ = some (.int .i64 n) := by first | exact World.cell?_setCell_same _ _ _ hp | exact World.cell?_setCell_same _ _ hp
  have HK := Lib.hid (grown_cell (((Grown.refl (w.setCell ⟨g, 0, none⟩ (.int .i64 n))).alloc #[.pointer (some ⟨4, 59, none⟩), .pointer (some ⟨a, 0, none⟩), .int .u64 150] 91).alloc #[.int .i64 n] 33) hk)
  clear hG hb hk
  go_enter Tryz.func29, Tryz.ntmps29
  go_wp2_with fail
  refine wp_loop_rounds 1 ?_
  rw [rounds_succ]
  go_wp2_with fail
  go_ret
  exact ⟨rfl, (((XTouch.refl (fun k => k = g) w).setCell (p := ⟨g, 0, none⟩) (.inl rfl) _).alloc _).alloc _, HK.out⟩
set_option maxRecDepth 100000 in
set_option maxHeartbeats 1000000 in
theorem as16 (n m : Int) (g : Nat) (w : World) (hp : w.cell? ⟨g, 0, none⟩ = some (.int .i64 m)) (hz : w.frozen? ⟨g, 0, none⟩ = false) (hE : w.cell? ⟨0, 0, none⟩ = some (.iface 164 (.agg #[.pointer (some ⟨4, 40, none⟩)]))) :
    Calls Tryz.prog 15 #[.iface 33 (.int .i64 n), .iface 59 (.pointer (some ⟨g, 0, none⟩))] w (setAt g n w) := by
  have g0 := World.block_lt_of_cell? _ _ hE
  have g1 := World.block_lt_of_cell? _ _ hp
  have F22 := f22_ptr ⟨g, 0, none⟩
  have F23 := f23_ptr
  have F24 := fun a => f24_ptr a ⟨g, 0, none⟩
  have M1 := mKind57; have M2 := mKind31; have M3 := mElem57; have M4 := mImpl31
  have C1 := cKind57; have C2 := cKind31; have C3 := cElem57; have C4 := cImpl31
  have hG := ((Grown.refl w).alloc #[.pointer (some ⟨g, 0, none⟩)] 59).alloc #[.pointer (some ⟨4, 59, none⟩), .pointer (some ⟨w.heap.size, 0, none⟩), .int .u64 150] 91
  have hA : ((w.alloc (.cells #[.pointer (some ⟨g, 0, none⟩)] 59)).alloc (.cells #[.pointer (some ⟨4, 59, none⟩), .pointer (some ⟨w.heap.size, 0, none⟩), .int .u64 150] 91)).cell? ⟨w.heap.size, 0, none⟩ = some (.pointer (some ⟨g, 0, none⟩)) :=
    grown_cell ((Grown.refl (w.alloc (.cells #[.pointer (some ⟨g, 0, none⟩)] 59))).alloc _ _) (World.cell?_alloc_new w #[.pointer (some ⟨g, 0, none⟩)] 59 0)
  have HC := Lib.hid (as25 n m g w.heap.size _ hA (grown_cell hG hp) ((hG.2.1 _).trans hz))
  have HG := Lib.hid hG
  clear hG hA
  go_enter Tryz.func15, Tryz.ntmps15
  go_wp2_with fail
  refine (HC.out).mono ?_
  rintro e w' ⟨rfl, ht, hc⟩
  have HT := Lib.hid ((((XTouch.refl (fun k => k = g) w).alloc (.cells #[.pointer (some ⟨g, 0, none⟩)] 59)).alloc (.cells #[.pointer (some ⟨4, 59, none⟩), .pointer (some ⟨w.heap.size, 0, none⟩), .int .u64 150] 91)).trans ht (fun k _ h => h))
  have HC2 := Lib.hid hc
  clear ht hc
  go_wp2
  go_ret
  exact ⟨rfl, HT.out, HC2.out⟩
/-- an error of the program's, told: its number -/
theorem told_err (n : Int) (w : World) (hE : w.cell? ⟨0, 0, none⟩ = some (.iface 164 (.agg #[.pointer (some ⟨4, 40, none⟩)]))) : Calls Tryz.prog 8 #[.iface 33 (.int .i64 n)] w fun e w' => e = .returned (.int .i64 n) ∧ XTouch (fun _ => False) w w' := by
  have hG := (Grown.refl w).alloc #[.int .i64 0] 33
  have HC := Lib.hid (as16 n 0 w.heap.size _ (World.cell?_alloc_new w #[.int .i64 0] 33 0) (World.frozen?_alloc_new _ _ _ _) (grown_cell hG hE))
  have HG := Lib.hid hG
  clear hG
  go_enter Tryz.func8, Tryz.ntmps8
  go_wp2_with fail
  refine (HC.out).mono ?_
  rintro e w' ⟨rfl, ht, k0⟩
  have HT : Hid (XTouch (fun _ => False) w w') := Lib.hid (by
    have h := ((XTouch.refl (fun k => k = w.heap.size) w).alloc (.cells #[.int .i64 0] 33)).trans ht (fun k _ h => h)
    exact h.mono (fun k hk e => by omega))
  clear ht
  go_wp2
  go_ret
  exact ⟨rfl, HT.out⟩
theorem told_nil (w : World) : Calls Tryz.prog 8 #[.nilIface] w fun e w' => e = .returned (.int .i64 0) ∧ w = w' := by
  go_enter Tryz.func8, Tryz.ntmps8
  go_wp2
  go_ret
  exact ⟨rfl, rfl⟩
end Go.Proofs.YthacioiefgabbaaGreatDoor.told
