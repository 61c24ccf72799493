/- Part E: what operations compute: the table of the operations. -/
import Derived.Test.YtejnjleofekljaaD
import Derived.Laws.Tables
import Derived.Deep.WholeRow
import Derived.Laws.EntriesVeiled
namespace Go
/-- an operation whose run is known, whatever it is -/
structure OpRuns (P : Program) (o : Oper) (a : Act) (w : World) (v : Value) (w' : World) : Prop where
  run : (execOp a.eval o).run P w = .ok (.value v) w'
theorem wpList_run {P : Program} {ops : Array Oper} {Q : Exit → Act → World → Prop} {a : Act} {w : World} {rest : List Oper} {o : Oper} {v : Value} {w' : World}
    (hg : o.guard = none) (hr : OpRuns P o a w v w') (h : wpList P ops Q rest (a.put o.dst v) w') : wpList P ops Q (o :: rest) a w :=
  wpList_plain hg fun K hK => by
    unfold Oper.wp; rw [hr.run, Oper.upon_value]; exact hK _ _ h
end Go
namespace Go.Proofs.Ytejnjleofekljaa
open Go.RowKit
set_option linter.unusedVariables false

noncomputable def regOps : Code → Nat → Array Oper
  | .seq (.region _ ops _) _, 0 => ops
  | .seq _ b, n + 1 => regOps b n
  | _, _ => #[]
noncomputable def opBuild : Oper := ((regOps (Try.f20.body.getD .skip) 1)[0]?).getD default
noncomputable def opAlloc : Oper := ((regOps (Try.f20.body.getD .skip) 1)[1]?).getD default
def fnNo : List Nat := [0, 24, 25, 0, 0, 0, 0, 0, 0, 0, 0, 0, 0, 0, 0, 0, 0, 0, 0, 26, 27, 28, 29, 30, 31, 32, 33, 34, 26, 35, 32, 27, 28, 29, 33, 34, 30, 31, 36, 37, 40, 38, 41, 43, 44, 45]
def fnOf (n : Nat) : Value := if n = 0 then .nilFunc else .func (.func n) #[] #[]
def FT : Array Value := (fnNo.map fnOf).toArray
def ZT : Array Value := Array.replicate 46 .nilFunc
theorem build_run (a : Act) (w : World) : OpRuns Try.prog opBuild a w (.agg FT) w := ⟨by kernel_rfl⟩
theorem alloc_run (a : Act) (w : World) : OpRuns Try.prog opAlloc a w (.pointer (some ⟨w.heap.size, 0, none⟩)) (w.alloc (.cells ZT 51)) := ⟨by kernel_rfl⟩
theorem ft_at (op : Int) (h1 : 0 ≤ op) (h2 : op < 46) : FT[op.toNat]? = some (fnOf (fnNo.getD op.toNat 0)) := by
  have hl : fnNo.length = 46 := by decide
  unfold FT
  simp [List.getD_eq_getElem?_getD, List.getElem?_eq_getElem (show op.toNat < fnNo.length by omega)]

set_option maxRecDepth 100000 in
theorem operation_any (op : Int) (h1 : 0 ≤ op) (h2 : op < 46) (w : World) : Calls Try.prog 20 #[.int .i64 op] w fun e w' => e = .returned (fnOf (fnNo.getD op.toNat 0)) ∧ Grown w w' := by
  have hc := (World.cell?_alloc_new w FT 51 op.toNat).trans (ft_at op h1 h2)
  have hG := Lib.hid ((Grown.refl w).alloc FT 51)
  have HC := Lib.hid hc
  clear hc
  go_enter Try.func20, Try.ntmps20
  go_wp2_with (first | refine wpList_run rfl (build_run _ _) ?_ | refine wpList_run rfl (alloc_run _ _) ?_ | (refine wpList_store_row rfl 51 (.tmp 3) (.tmp 4) rfl w.heap.size FT rfl rfl 51 ZT (heap_alloc_new _ _) (by kernel_rfl) (by kernel_rfl) (by kernel_rfl) ?_; rw [World.setRow_alloc_new]; have hc := HC.out; generalize w.alloc (.cells FT 51) = W at hc hG ⊢))
  go_ret
  exact ⟨rfl, hG.out⟩
end Go.Proofs.Ytejnjleofekljaa
