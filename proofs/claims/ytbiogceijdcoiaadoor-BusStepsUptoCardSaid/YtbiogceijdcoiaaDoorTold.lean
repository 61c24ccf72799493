/- Told, part C: errors.As at a number's error, walked. -/
import Derived.Test.YtbiogceijdcoiaaDoorToldB
namespace Go.Proofs.YtbiogceijdcoiaaDoor
open Go.RowKit Go.XHeap
set_option linter.unusedVariables false

theorem grown_cell {a b : World} (h : Grown a b) {g o : Nat} {v : Value} (hc : a.cell? ⟨g, o, none⟩ = some v) : b.cell? ⟨g, o, none⟩ = some v :=
  (h.1.cell (World.block_lt_of_cell? _ _ hc) (fun f => f)).trans hc
theorem grown_trans {a b c : World} (h1 : Grown a b) (h2 : Grown b c) : Grown a c :=
  ⟨World.keptBut_trans h1.1 (World.keptBut_mono (fun _ f => f.elim) h2.1), fun x => (h2.2.1 x).trans (h1.2.1 x), Nat.le_trans h1.2.2 h2.2.2⟩
def setAt (g : Nat) (n : Int) (w : World) (e : Ending) (w' : World) : Prop := e = .returned (.bool true) ∧ XTouch (fun k => k = g) w w' ∧ w'.cell? ⟨g, 0, none⟩ = some (.int .i64 n)
set_option maxRecDepth 100000 in
set_option maxHeartbeats 1000000 in
theorem as25 (n m : Int) (g a : Nat) (w : World) (ha : w.cell? ⟨a, 0, none⟩ = some (.pointer (some ⟨g, 0, none⟩))) (hp : w.cell? ⟨g, 0, none⟩ = some (.int .i64 m)) (hz : w.frozen? ⟨g, 0, none⟩ = false) :
    Calls Tryd.prog 58 #[.iface 62 (.int .i64 n), .iface 110 (.pointer (some ⟨g, 0, none⟩)), .agg #[.pointer (some ⟨1, 110, none⟩), .pointer (some ⟨a, 0, none⟩), .int .u64 150], .iface 150 (.agg #[.pointer (some ⟨1, 62, none⟩)])] w (setAt g n w) := by
  have g0 := World.block_lt_of_cell? _ _ ha
  have g1 := World.block_lt_of_cell? _ _ hp
  have F22i := f22_int n
  have F28 := f28_int n
  have M1 := mAssign31
  have C1 := cAssign31
  have F29 := fun a => f29_ptr a ⟨g, 0, none⟩
  have hG := ((Grown.refl w).alloc #[.pointer (some ⟨1, 110, none⟩), .pointer (some ⟨a, 0, none⟩), .int .u64 150] 137).alloc #[.int .i64 n] 62
  have hb : ((w.alloc (.cells #[.pointer (some ⟨1, 110, none⟩), .pointer (some ⟨a, 0, none⟩), .int .u64 150] 137)).alloc (.cells #[.int .i64 n] 62)).cell? ⟨w.heap.size + 1, 0, none⟩ = some (.int .i64 n) := by
    have := World.cell?_alloc_new (w.alloc (.cells #[.pointer (some ⟨1, 110, none⟩), .pointer (some ⟨a, 0, none⟩), .int .u64 150] 137)) #[.int .i64 n] 62 0
    simp at this ⊢
  have F30 := f30_int ⟨g, 0, none⟩ ⟨w.heap.size + 1, 0, none⟩ n m _ hb (grown_cell hG hp) ((hG.2.1 _).trans hz)
  have hk : (w.setCell ⟨g, 0, none⟩ (.int .i64 n)).cell? ⟨g, 0, none⟩ = some (.int .i64 n) := by first | exact World.cell?_setCell_same _ _ _ hp | exact World.cell?_setCell_same _ _ hp
  have HK := Lib.hid (grown_cell (((Grown.refl (w.setCell ⟨g, 0, none⟩ (.int .i64 n))).alloc #[.pointer (some ⟨1, 110, none⟩), .pointer (some ⟨a, 0, none⟩), .int .u64 150] 137).alloc #[.int .i64 n] 62) hk)
  clear hG hb hk
  go_enter Tryd.func58, Tryd.ntmps58
  go_wp2_with fail
  refine wp_loop_rounds 1 ?_
  rw [rounds_succ]
  go_wp2_with fail
  go_ret
  exact ⟨rfl, (((XTouch.refl (fun k => k = g) w).setCell (p := ⟨g, 0, none⟩) (.inl rfl) _).alloc _).alloc _, HK.out⟩
set_option maxRecDepth 100000 in
set_option maxHeartbeats 1000000 in
theorem as16 (n m : Int) (g : Nat) (w : World) (hp : w.cell? ⟨g, 0, none⟩ = some (.int .i64 m)) (hz : w.frozen? ⟨g, 0, none⟩ = false) (hE : w.cell? ⟨0, 0, none⟩ = some (.iface 150 (.agg #[.pointer (some ⟨1, 33, none⟩)]))) :
    Calls Tryd.prog 41 #[.iface 62 (.int .i64 n), .iface 110 (.pointer (some ⟨g, 0, none⟩))] w (setAt g n w) := by
  have g0 := World.block_lt_of_cell? _ _ hE
  have g1 := World.block_lt_of_cell? _ _ hp
  have F22 := f22_ptr ⟨g, 0, none⟩
  have F23 := f23_ptr
  have F24 := fun a => f24_ptr a ⟨g, 0, none⟩
  have M1 := mKind57; have M2 := mKind31; have M3 := mElem57; have M4 := mImpl31
  have C1 := cKind57; have C2 := cKind31; have C3 := cElem57; have C4 := cImpl31
  have hG := ((Grown.refl w).alloc #[.pointer (some ⟨g, 0, none⟩)] 110).alloc #[.pointer (some ⟨1, 110, none⟩), .pointer (some ⟨w.heap.size, 0, none⟩), .int .u64 150] 137
  have hA : ((w.alloc (.cells #[.pointer (some ⟨g, 0, none⟩)] 110)).alloc (.cells #[.pointer (some ⟨1, 110, none⟩), .pointer (some ⟨w.heap.size, 0, none⟩), .int .u64 150] 137)).cell? ⟨w.heap.size, 0, none⟩ = some (.pointer (some ⟨g, 0, none⟩)) :=
    grown_cell ((Grown.refl (w.alloc (.cells #[.pointer (some ⟨g, 0, none⟩)] 110))).alloc _ _) (World.cell?_alloc_new w #[.pointer (some ⟨g, 0, none⟩)] 110 0)
  have HC := Lib.hid (as25 n m g w.heap.size _ hA (grown_cell hG hp) ((hG.2.1 _).trans hz))
  have HG := Lib.hid hG
  clear hG hA
  go_enter Tryd.func41, Tryd.ntmps41
  go_wp2_with fail
  refine (HC.out).mono ?_
  rintro e w' ⟨rfl, ht, hc⟩
  have HT := Lib.hid ((((XTouch.refl (fun k => k = g) w).alloc (.cells #[.pointer (some ⟨g, 0, none⟩)] 110)).alloc (.cells #[.pointer (some ⟨1, 110, none⟩), .pointer (some ⟨w.heap.size, 0, none⟩), .int .u64 150] 137)).trans ht (fun k _ h => h))
  have HC2 := Lib.hid hc
  clear ht hc
  go_wp2
  go_ret
  exact ⟨rfl, HT.out, HC2.out⟩
/-- an error of the program's, told: its number -/
theorem told_err (n : Int) (w : World) (hE : w.cell? ⟨0, 0, none⟩ = some (.iface 150 (.agg #[.pointer (some ⟨1, 33, none⟩)]))) : Calls Tryd.prog 26 #[.iface 62 (.int .i64 n)] w fun e w' => e = .returned (.int .i64 n) ∧ XTouch (fun _ => False) w w' := by
  have hG := (Grown.refl w).alloc #[.int .i64 0] 62
  have HC := Lib.hid (as16 n 0 w.heap.size _ (World.cell?_alloc_new w #[.int .i64 0] 62 0) (World.frozen?_alloc_new _ _ _ _) (grown_cell hG hE))
  have HG := Lib.hid hG
  clear hG
  go_enter Tryd.func26, Tryd.ntmps26
  go_wp2_with fail
  refine (HC.out).mono ?_
  rintro e w' ⟨rfl, ht, k0⟩
  have HT : Hid (XTouch (fun _ => False) w w') := Lib.hid (by
    have h := ((XTouch.refl (fun k => k = w.heap.size) w).alloc (.cells #[.int .i64 0] 62)).trans ht (fun k _ h => h)
    exact h.mono (fun k hk e => by omega))
  clear ht
  go_wp2
  go_ret
  exact ⟨rfl, HT.out⟩
theorem told_nil (w : World) : Calls Tryd.prog 26 #[.nilIface] w fun e w' => e = .returned (.int .i64 0) ∧ w = w' := by
  go_enter Tryd.func26, Tryd.ntmps26
  go_wp2
  go_ret
  exact ⟨rfl, rfl⟩
end Go.Proofs.YtbiogceijdcoiaaDoor
