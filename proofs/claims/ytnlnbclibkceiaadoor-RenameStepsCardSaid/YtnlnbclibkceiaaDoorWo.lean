/- Part Wo of the proofs over 'rename': the law of the steps where no table is made. -/
import Derived.Test.YtnlnbclibkceiaaDoorK
namespace Go.Proofs.YtnlnbclibkceiaaDoor
open Go.RowKit Go.XHeap
set_option linter.unusedVariables false

set_option maxRecDepth 100000 in
theorem steps_out (n : Int) (hout : n < 34 ∨ 128 < n) (vs : Value) (ns : Nat) (w : World) (hs : Scr w vs ns) (hE : w.cell? ⟨0, 0, none⟩ = some (.iface 77 (.agg #[.pointer (some ⟨1, 25, none⟩)]))) :
    Calls Tryd.prog 3 #[.int .i64 n, vs] w (AllSame w) := by
  obtain ⟨ar, cr, rfl, rm, hrc⟩ := hs
  have HE := Lib.hid hE
  clear hrc hE
  unfold maxLen at rm
  go_enter Tryd.func3, Tryd.ntmps3
  go_wp2_with fail
  refine (new_out n hout _).mono ?_
  rintro e w1 ⟨rfl, rfl⟩
  go_wp2_with fail
  refine (rnew_out n hout _).mono ?_
  rintro e w1 ⟨rfl, rfl⟩
  go_wp2_with fail
  refine (told_err 2 _ HE.out).mono ?_
  rintro e w2 ⟨rfl, ht⟩
  have HT := Lib.hid ht
  clear ht
  go_wp2_with fail
  go_loopw [10, 11] (fun vl i wr => vl = .slice none 0 0 ∧ i = .int .i64 0 ∧ wr = w2) (fun _ _ _ => 0)
  case atStart => exact ⟨rfl, rfl, rfl⟩
  case round =>
    obtain ⟨rfl, rfl, rfl⟩ := hrel
    by_cases h : 0 < ns
    · go_wp2_with fail
      go_ret
      exact ⟨rfl, HT.out.below (Nat.le_refl _) (fun _ h => h.elim)⟩
    · obtain rfl : ns = 0 := by omega
      go_wp2_with fail
      go_ret
      exact ⟨rfl, HT.out.below (Nat.le_refl _) (fun _ h => h.elim)⟩
end Go.Proofs.YtnlnbclibkceiaaDoor
