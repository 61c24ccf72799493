/- Part He of the proofs over 'rename': the handle of the type 'error', out of the card's condition. -/
import Derived.Test.YtcpmgklhfpcaeaaGreatDoorRows
import Derived.Test.YtcpmgklhfpcaeaaGreatDoorTold
import Derived.LaidHandle
namespace Go.Proofs.YtcpmgklhfpcaeaaGreatDoor
open Go.RowKit Go.XHeap
set_option linter.unusedVariables false

theorem hE_of_laid {w : World} (hh : handlesMet Tryz.prog [("errors.errorType", Rows.laid_errors_errorType)] w) : w.cell? ⟨0, 0, none⟩ = some (.iface 169 (.agg #[.pointer (some ⟨4, 26, none⟩)])) := by
  obtain ⟨name, u, ty, e1, e2, hlt, hrow, hv⟩ : ∃ name u ty, DataW.handleName? (Rows.laid_errors_errorType (H := Unit)) = some name ∧ (Tryz.prog.cutTypes.find? (·.1 == "internal/reflectlite.rtype")).map (·.2) = some u ∧ ty < Tryz.prog.types.size ∧ Tryz.prog.rowNamed ty name = true ∧
      w.var? Tryz.prog "errors.errorType" = some #[.iface u (.agg #[typeHandle Tryz.prog ty])] := hh _ (.head _)
  have f1 : DataW.handleName? (Rows.laid_errors_errorType (H := Unit)) = some [101, 114, 114, 111, 114] := by kernel_rfl
  have f2 : (Tryz.prog.cutTypes.find? (·.1 == "internal/reflectlite.rtype")).map (·.2) = some 169 := by kernel_rfl
  have f3 : (List.range Tryz.prog.types.size).all (fun t => !Tryz.prog.rowNamed t [101, 114, 114, 111, 114] || t == 26) = true := by kernel_rfl
  have f4 : Tryz.prog.globalNamed "errors.errorType" = some 0 := by kernel_rfl
  have f5 : typeHandle Tryz.prog 26 = .pointer (some ⟨4, 26, none⟩) := by kernel_rfl
  obtain rfl := Option.some.inj (f1.symm.trans e1)
  obtain rfl := Option.some.inj (f2.symm.trans e2)
  have h25 : ty = 26 := by
    have := List.all_eq_true.1 f3 ty (List.mem_range.2 hlt)
    simpa [hrow] using this
  subst h25
  rw [f5] at hv
  unfold World.var? at hv
  rw [f4] at hv
  simp only [Option.bind_some] at hv
  unfold World.cell?
  cases hb : w.heap[0]? with
  | none => rw [hb] at hv; simp at hv
  | some o =>
    rw [hb] at hv
    cases o with
    | cells cs t fr => simp at hv; subst hv; simp
    | _ => simp at hv
end Go.Proofs.YtcpmgklhfpcaeaaGreatDoor
