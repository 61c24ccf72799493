/- Part E: what operations compute: the table of the operations. -/
import Derived.Test.YtcpmgklhfpcaeaaDoorAluD
import Derived.Laws.Tables
import Derived.Deep.WholeRow
import Derived.Laws.EntriesVeiled
namespace Go
/-- an operation whose run is known, whatever it is -/
structure OpRuns (P : Program) (o : Oper) (a : Act) (w : World) (v : Value) (w' : World) : Prop where
  run : (execOp a.eval o).run P w = .ok (.value v) w'
theorem wpList_run {P : Program} {ops : Array Oper} {Q : Exit → Act → World → Prop} {a : Act} {w : World} {rest : List Oper} {o : Oper} {v : Value} {w' : World}
    (hg : o.guard = none) (hr : OpRuns P o a w v w') (h : wpList P ops Q rest (a.put o.dst v) w') : wpList P ops Q (o :: rest) a w :=
  wpList_plain hg fun K hK => by
    unfold Oper.wp; rw [hr.run, Oper.upon_value]; exact hK _ _ h
end Go
namespace Go.Proofs.YtcpmgklhfpcaeaaDoor.alu
open Go.RowKit
set_option linter.unusedVariables false
set_option maxRecDepth 100000

noncomputable def regOps : Code → Nat → Array Oper
  | .seq (.region _ ops _) _, 0 => ops
  | .seq _ b, n + 1 => regOps b n
  | _, _ => #[]
noncomputable def opBuild : Oper := ((regOps (Tryd.f42.body.getD .skip) 1)[0]?).getD default
noncomputable def opAlloc : Oper := ((regOps (Tryd.f42.body.getD .skip) 1)[1]?).getD default
def fnNo : List Nat := [0, 50, 51, 0, 0, 0, 0, 0, 0, 0, 0, 0, 0, 0, 0, 0, 0, 0, 0, 52, 53, 54, 55, 56, 57, 58, 59, 60, 52, 61, 58, 53, 54, 55, 59, 60, 56, 57, 62, 63, 66, 64, 67, 69, 70, 71]
def fnOf (n : Nat) : Value := if n = 0 then .nilFunc else .func (.func n) #[] #[]
def FT : Array Value := (fnNo.map fnOf).toArray
def ZT : Array Value := Array.replicate 46 .nilFunc
theorem build_run (a : Act) (w : World) : OpRuns Tryd.prog opBuild a w (.agg FT) w := ⟨by kernel_rfl⟩
theorem alloc_run (a : Act) (w : World) : OpRuns Tryd.prog opAlloc a w (.pointer (some ⟨w.heap.size, 0, none⟩)) (w.alloc (.cells ZT 107)) := ⟨by kernel_rfl⟩
theorem ft_at (op : Int) (h1 : 0 ≤ op) (h2 : op < 46) : FT[op.toNat]? = some (fnOf (fnNo.getD op.toNat 0)) := by
  have hl : fnNo.length = 46 := by decide
  unfold FT
  simp [List.getD_eq_getElem?_getD, List.getElem?_eq_getElem (show op.toNat < fnNo.length by omega)]

set_option maxRecDepth 100000 in
theorem operation_any (op : Int) (h1 : 0 ≤ op) (h2 : op < 46) (w : World) : Calls Tryd.prog 42 #[.int .i64 op] w fun e w' => e = .returned (fnOf (fnNo.getD op.toNat 0)) ∧ Grown w w' := by
  have hc := (World.cell?_alloc_new w FT 107 op.toNat).trans (ft_at op h1 h2)
  have hG := Lib.hid ((Grown.refl w).alloc FT 107)
  have HC := Lib.hid hc
  clear hc
  go_enter Tryd.func42, Tryd.ntmps42
  go_wp2_with (first | refine wpList_run rfl (build_run _ _) ?_ | refine wpList_run rfl (alloc_run _ _) ?_ | (refine wpList_store_row rfl 107 (.tmp 3) (.tmp 4) rfl w.heap.size FT rfl rfl 107 ZT (heap_alloc_new _ _) (by kernel_rfl) (by kernel_rfl) (by kernel_rfl) ?_; rw [World.setRow_alloc_new]; have hc := HC.out; generalize w.alloc (.cells FT 107) = W at hc hG ⊢))
  go_ret
  exact ⟨rfl, hG.out⟩
end Go.Proofs.YtcpmgklhfpcaeaaDoor.alu
