/- slices.Insert of this program is the library's, as the shelf has it: its contracts hold. -/
import Derived.Shelf.Spec.SlicesInsert
import Derived.Shelf.Spec.SlicesInsertGrow
import Derived.Test.YtnlnbclibkceiaaDoorA
namespace Go.Proofs.YtnlnbclibkceiaaDoor
open Go.Shelf

def insRen : Go.Shelf.Ren := ⟨fun | 21 => 18 | 27 => 26 | 28 => 27 | 35 => 31 | 39 => 32 | n => n, fun | 22 => 50 | n => n, fun n => n⟩
theorem insLays : Lays2.n21 Tryd.prog insRen :=
  { mixed := by kernel_rfl, f21 := by kernel_rfl, f27 := by kernel_rfl, f28 := by kernel_rfl, f35 := by kernel_rfl, f39 := by kernel_rfl
    t0 := by kernel_rfl, a0 := fun _ => by kernel_rfl, z0 := fun _ => by kernel_rfl, v0 := fun _ => by kernel_rfl
    t3 := by kernel_rfl, a3 := fun _ => by kernel_rfl, z3 := fun _ => by kernel_rfl, v3 := fun _ => by kernel_rfl
    t4 := by kernel_rfl, a4 := fun _ => by kernel_rfl, z4 := fun _ => by kernel_rfl, v4 := fun _ => by kernel_rfl
    t22 := by kernel_rfl, a22 := fun _ => by kernel_rfl, z22 := fun _ => by kernel_rfl, v22 := fun _ => by kernel_rfl
    i3 := by kernel_rfl }
end Go.Proofs.YtnlnbclibkceiaaDoor
