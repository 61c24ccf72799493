/- Part Ga: the document's fields of a word, letter 65. -/
import Derived.Test.YtcpmgklhfpcaeaaGreatDoorIsaG
namespace Go.Proofs.YtcpmgklhfpcaeaaGreatDoor
open Go.RowKit Go.XHeap
set_option linter.unusedVariables false
set_option maxRecDepth 100000

set_option maxRecDepth 20000 in
set_option maxHeartbeats 4000000 in
theorem fields_65 (s : ByteArray) (c a g : Int) (x : Int) (hx0 : 0 ≤ x) (hx1 : x < 4294967296) (w : World) : Calls Tryz.prog 101 #[rowV s 65 c a g, .int .u32 x] w (ReadIs (partF x 7 5) (partF x 15 5) (partF x 20 5) (partF x 25 2) w) := by
  unfold rowV
  go_enter Tryz.func101, Tryz.ntmps101
  go_wp2_with (first
    | (go_at_call 127; refine (bits_any x hx0 hx1 _ _ (by decide) (by decide) (by decide) (by decide) _).mono ?_; rintro e w' ⟨rfl, m, rfl⟩))
  go_region_with (go_at_call 127; refine (bits_any x hx0 hx1 _ _ (by decide) (by decide) (by decide) (by decide) _).mono ?_; rintro e w' ⟨rfl, m, rfl⟩)
  all_goals go_wp2
  all_goals
    apply post5f (v0 := .int .i64 0) (v1 := .int .i64 (partF x 7 5)) (v2 := .int .i64 (partF x 15 5)) (v3 := .int .i64 (partF x 20 5)) (v4 := .int .i64 (partF x 25 2))
    case hd => rfl
    case ht => rfl
    case hB => repeat (first | with_reducible apply Blk.set | with_reducible apply Blk.drewN | with_reducible exact Blk.new1 _ _ _ _ | with_reducible apply Blk.alloc)
    case hcs => simp
    case hQ =>
      refine ⟨rfl, ?_⟩
      repeat (first | with_reducible exact Grown.refl _ | with_reducible refine Grown.setCell ?_ (Nat.le_succ _) _ | with_reducible refine Grown.alloc ?_ _ _ | with_reducible refine grown_dr ?_ _)
end Go.Proofs.YtcpmgklhfpcaeaaGreatDoor
