/- Part He of the proofs over 'rename': the handle of the type 'error', out of the card's condition. -/
import Derived.Test.YtbiogceijdcoiaaDoorRows
import Derived.Test.YtbiogceijdcoiaaDoorTold
import Derived.LaidHandle
namespace Go.Proofs.YtbiogceijdcoiaaDoor
open Go.RowKit Go.XHeap
set_option linter.unusedVariables false

theorem hE_of_laid {w : World} (hh : handlesMet Tryd.prog [("errors.errorType", Rows.laid_errors_errorType)] w) : w.cell? ⟨0, 0, none⟩ = some (.iface 150 (.agg #[.pointer (some ⟨1, 33, none⟩)])) := by
  obtain ⟨name, u, ty, e1, e2, hlt, hrow, hv⟩ : ∃ name u ty, DataW.handleName? (Rows.laid_errors_errorType (H := Unit)) = some name ∧ (Tryd.prog.cutTypes.find? (·.1 == "internal/reflectlite.rtype")).map (·.2) = some u ∧ ty < Tryd.prog.types.size ∧ Tryd.prog.rowNamed ty name = true ∧
      w.var? Tryd.prog "errors.errorType" = some #[.iface u (.agg #[typeHandle Tryd.prog ty])] := hh _ (.head _)
  have f1 : DataW.handleName? (Rows.laid_errors_errorType (H := Unit)) = some [101, 114, 114, 111, 114] := by kernel_rfl
  have f2 : (Tryd.prog.cutTypes.find? (·.1 == "internal/reflectlite.rtype")).map (·.2) = some 150 := by kernel_rfl
  have f3 : (List.range Tryd.prog.types.size).all (fun t => !Tryd.prog.rowNamed t [101, 114, 114, 111, 114] || t == 33) = true := by kernel_rfl
  have f4 : Tryd.prog.globalNamed "errors.errorType" = some 0 := by kernel_rfl
  have f5 : typeHandle Tryd.prog 33 = .pointer (some ⟨1, 33, none⟩) := by kernel_rfl
  obtain rfl := Option.some.inj (f1.symm.trans e1)
  obtain rfl := Option.some.inj (f2.symm.trans e2)
  have h25 : ty = 33 := by
    have := List.all_eq_true.1 f3 ty (List.mem_range.2 hlt)
    simpa [hrow] using this
  subst h25
  rw [f5] at hv
  unfold World.var? at hv
  rw [f4] at hv
  simp only [Option.bind_some] at hv
  unfold World.cell?
  cases hb : w.heap[0]? with
  | none => rw [hb] at hv; simp at hv
  | some o =>
    rw [hb] at hv
    cases o with
    | cells cs t fr => simp at hv; subst hv; simp
    | _ => simp at hv
end Go.Proofs.YtbiogceijdcoiaaDoor
