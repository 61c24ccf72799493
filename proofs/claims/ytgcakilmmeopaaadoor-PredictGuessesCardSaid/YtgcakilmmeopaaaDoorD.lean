/- Part D of the proofs over 'predict': New, of the make that PredictReturns asks for. No condition. -/
import Derived.Test.YtgcakilmmeopaaaDoorC
namespace Go.Proofs.YtgcakilmmeopaaaDoor
open Go.RowKit Go.XHeap Go.Sx
set_option linter.unusedVariables false
set_option maxRecDepth 100000

theorem made_stack (r : Nat) : madeCells #[Value.int IntKind.u32 0] (r * 1) = (u32s (List.replicate r 0)).toArray := by
  apply Array.toList_inj.1
  rw [toList_madeCells_one]
  simp [u32s]
def tgt1 : Array Value := #[.int .u32 0, .int .u32 0, .bool false]
theorem made_tgt : madeCells #[Value.int IntKind.u32 0, Value.int IntKind.u32 0, Value.bool false] (Int.toNat 1 * 3) = tgt1 := by kernel_rfl
theorem sh0 : IntKind.wrap .i64 (1 * 2 ^ min (Int.toNat 0) (IntKind.bits .i64)) = 1 := by decide
def fixedV : Value := .iface 79 (.agg #[.bool false])
theorem within_yes {n lo hi : Int} (h1 : lo ≤ n) (h2 : n ≤ hi) : (decide (n ≥ lo) && decide (n ≤ hi)) = true := by simp; omega
theorem new_fin {W w11 : World} {r k tb sb : Nat} (h1 : 1 ≤ r) (h2 : r ≤ 16) (ht : XTouch (fun _ => False) W w11) (root : Blk w11 k #[.nilIface, .int .i64 0, .int .i64 0, .slice (some ⟨tb, 0, none⟩) 1 1, .slice (some ⟨sb, 0, none⟩) r r, .int .i64 0] 72)
    (tg : Blk w11 tb tgt1 87) (stk : Blk w11 sb (u32s (List.replicate r 0)).toArray 35) (d1 : k ≠ tb) (d2 : k ≠ sb) (d3 : tb ≠ sb) (g1 : W.heap.size ≤ k) (g2 : W.heap.size ≤ tb) (g3 : W.heap.size ≤ sb) :
    ∃ b S, Ending.returned (.tuple #[.pointer (some ⟨k, 0, none⟩), .nilIface]) = .returned (.tuple #[.pointer (some ⟨b, 0, none⟩), .nilIface]) ∧ PredAt (w11.setCell ⟨k, 0, none⟩ fixedV) b S ∧ S.dir = fixedV ∧ S.stack = List.replicate r 0 ∧ S.mask = 0 ∧ S.hist = 0 ∧ S.top = 0 ∧ XTouch (fun _ => False) W (w11.setCell ⟨k, 0, none⟩ fixedV) ∧ ∀ q, S.own b q → W.heap.size ≤ q := by
  have ht2 := (XTouch.refl (fun q => q = k) w11).setCell (p := ⟨k, 0, none⟩) (.inl rfl) fixedV
  refine ⟨k, ⟨fixedV, 0, 0, tb, 1, 1, tgt1, sb, r, List.replicate r 0, 0⟩, rfl, ⟨?_, tg.keep ht2 (fun e => d1 e.symm), stk.keep ht2 (fun e => d2 e.symm), d1, d2, d3, ?_, ?_⟩, rfl, rfl, rfl, rfl, rfl, ht.setCell (p := ⟨k, 0, none⟩) (.inr g1) _, ?_⟩
  · show Blk _ k #[fixedV, .int .i64 0, .int .i64 0, .slice (some ⟨tb, 0, none⟩) 1 1, .slice (some ⟨sb, 0, none⟩) (List.replicate r (0 : Int)).length r, .int .i64 ((0 : Nat) : Int)] 72
    rw [List.length_replicate]
    exact root.set 0 fixedV
  · show 0 < (List.replicate r (0 : Int)).length; rw [List.length_replicate]; omega
  · show (List.replicate r (0 : Int)).length ≤ 16; rw [List.length_replicate]; omega
  · rintro q (rfl | rfl | rfl)
    · exact g1
    · exact g2
    · exact g3
theorem new_ret (W : World) (r : Nat) (h1 : 1 ≤ r) (h2 : r ≤ 16) :
    Calls Tryd.prog 7 #[.agg #[.int .i64 0, .int .i64 1, .int .i64 0, .int .i64 0, .int .i64 r]] W fun e w => ∃ b S, e = .returned (.tuple #[.pointer (some ⟨b, 0, none⟩), .nilIface]) ∧ PredAt w b S ∧ S.dir = fixedV ∧ S.stack = List.replicate r 0 ∧ S.mask = 0 ∧ S.hist = 0 ∧ S.top = 0 ∧ XTouch (fun _ => False) W w ∧ ∀ k, S.own b k → W.heap.size ≤ k := by
  refine vc7 _ ?_
  rintro k w2 rfl rfl
  have hb : Blk (W.alloc (.cells #[.int .i64 0, .int .i64 1, .int .i64 0, .int .i64 0, .int .i64 r] 30)) W.heap.size #[.int .i64 0, .int .i64 1, .int .i64 0, .int .i64 0, .int .i64 r] 30 := Blk.new W _ _
  have ht : XTouch (fun _ => False) W (W.alloc (.cells #[.int .i64 0, .int .i64 1, .int .i64 0, .int .i64 0, .int .i64 r] 30)) := (XTouch.refl _ W).alloc _
  have hs : (W.alloc (.cells #[.int .i64 0, .int .i64 1, .int .i64 0, .int .i64 0, .int .i64 r] 30)).heap.size = W.heap.size + 1 := by simp
  have ew : W.alloc (.cells (Value.agg #[.int .i64 0, .int .i64 1, .int .i64 0, .int .i64 0, .int .i64 r]).cells 30) = W.alloc (.cells #[.int .i64 0, .int .i64 1, .int .i64 0, .int .i64 0, .int .i64 r] 30) := rfl
  rw [ew]
  generalize W.alloc (.cells #[.int .i64 0, .int .i64 1, .int .i64 0, .int .i64 0, .int .i64 r] 30) = w2 at hb ht hs
  clear ew
  refine ⟨0, hb.cell' rfl, (within_any w2 0 0 3).mono ?_⟩
  rintro e w3 ⟨rfl, rfl⟩
  refine ⟨_, rfl, split_of (fun q => by cases q) (fun _ => ?_)⟩
  refine ⟨1, hb.cell' rfl, (within_any _ 1 1 10).mono ?_⟩
  rintro e w4 ⟨rfl, rfl⟩
  refine ⟨_, rfl, split_of (fun q => by cases q) (fun _ => ?_)⟩
  refine ⟨0, hb.cell' rfl, 1, hb.cell' rfl, (within_any _ 0 0 _).mono ?_⟩
  rintro e w5 ⟨rfl, rfl⟩
  refine ⟨_, rfl, split_of (fun q => by cases q) (fun _ => ?_)⟩
  refine ⟨0, hb.cell' rfl, (within_any _ 0 0 8).mono ?_⟩
  rintro e w6 ⟨rfl, rfl⟩
  refine ⟨_, rfl, split_of (fun q => by cases q) (fun _ => ?_)⟩
  refine ⟨r, hb.cell' rfl, (within_any _ r 1 16).mono ?_⟩
  rintro e w7 ⟨rfl, rfl⟩
  rw [within_yes (by omega) (by omega)]
  refine ⟨_, rfl, split_of (fun q => by cases q) (fun _ => ?_)⟩
  rintro w8 hw8
  have hb8 : Blk w8 W.heap.size #[.int .i64 0, .int .i64 1, .int .i64 0, .int .i64 0, .int .i64 r] 30 := by rw [hw8]; exact hb.drew
  have ht8 : XTouch (fun _ => False) W w8 := by rw [hw8]; exact ht.drew
  have hs8 : w8.heap.size = W.heap.size + 1 := by rw [hw8]; exact hs
  clear hw8 hb ht hs
  refine ⟨0, hb8.cell' rfl, by decide, ?_⟩
  rintro z8 hz8
  rw [sh0] at hz8
  subst hz8
  rintro z9 hz9
  rw [show IntKind.wrap .i64 (1 - 1) = 0 by decide] at hz9
  subst hz9
  refine ⟨0, hb8.cell' rfl, by decide, ?_⟩
  rintro z11 hz11
  rw [sh0] at hz11
  subst hz11
  refine ⟨r, hb8.cell' rfl, ?_, ?_⟩
  · refine ⟨⟨by omega, by omega, by omega, by omega⟩, ?_⟩
    rintro k2 w9 hk2 hw9
    rw [made_tgt] at hw9
    have hb9 : Blk w9 k2 tgt1 87 := by rw [hw9, hk2]; exact Blk.new w8 _ _
    have ht9 : XTouch (fun _ => False) w8 w9 := by rw [hw9]; exact (XTouch.refl _ w8).alloc _
    have hs9 : w9.heap.size = w8.heap.size + 1 := by rw [hw9, World.size_alloc]
    refine ⟨ht9.below (Nat.le_refl _) (fun _ e => e.elim), ⟨by omega, by omega, by omega, by omega⟩, ?_⟩
    rintro k3 w10 hk3 hw10
    rw [Int.toNat_natCast, made_stack] at hw10
    have hb10 : Blk w10 k3 (u32s (List.replicate r 0)).toArray 35 := by rw [hw10, hk3]; exact Blk.new w9 _ _
    have ht10' : XTouch (fun _ => False) w9 w10 := by rw [hw10]; exact (XTouch.refl _ w9).alloc _
    have ht10 := ht9.trans ht10' (fun _ _ e => e)
    have hs10 : w10.heap.size = w9.heap.size + 1 := by rw [hw10, World.size_alloc]
    refine ⟨ht10.below (Nat.le_refl _) (fun _ e => e.elim), ?_⟩
    rintro vs rfl k4 w11 hk4 hw11
    have hb11 : Blk w11 k4 #[.nilIface, .int .i64 0, .int .i64 0, .slice (some ⟨k2, 0, none⟩) 1 1, .slice (some ⟨k3, 0, none⟩) r r, .int .i64 0] 72 := by rw [hw11, hk4]; exact Blk.new w10 _ _
    have ht11' : XTouch (fun _ => False) w10 w11 := by rw [hw11]; exact (XTouch.refl _ w10).alloc _
    have ht11 := ht10.trans ht11' (fun _ _ e => e)
    have hs11 : w11.heap.size = w10.heap.size + 1 := by rw [hw11, World.size_alloc]
    clear hw11
    refine ⟨ht11.below (Nat.le_refl _) (fun _ e => e.elim), 0, (hb8.keep ht11 (fun e => e)).cell' rfl, split_of (fun q => by cases q) (fun _ => ?_)⟩
    refine split_of (fun q => by cases q) (fun _ => ?_)
    refine ⟨0, (hb8.keep ht11 (fun e => e)).cell' rfl, ?_⟩
    rintro vs3 rfl
    refine ⟨⟨_, hb11.cell' rfl⟩, hb11.frozen _, ?_⟩
    rintro w16 rfl
    exact new_fin h1 h2 (ht8.trans ht11 (fun _ _ e => e)) hb11 ((hb9.keep ht10' (fun e => e)).keep ht11' (fun e => e)) (hb10.keep ht11' (fun e => e)) (by omega) (by omega) (by omega) (by omega) (by omega) (by omega)
  · refine ⟨⟨by omega, by omega, by omega, by omega⟩, ?_⟩
    rintro k2 w9 hk2 hw9
    rw [Int.toNat_natCast, made_stack] at hw9
    have hb9 : Blk w9 k2 (u32s (List.replicate r 0)).toArray 35 := by rw [hw9, hk2]; exact Blk.new w8 _ _
    have ht9 : XTouch (fun _ => False) w8 w9 := by rw [hw9]; exact (XTouch.refl _ w8).alloc _
    have hs9 : w9.heap.size = w8.heap.size + 1 := by rw [hw9, World.size_alloc]
    refine ⟨ht9.below (Nat.le_refl _) (fun _ e => e.elim), ⟨by omega, by omega, by omega, by omega⟩, ?_⟩
    rintro k3 w10 hk3 hw10
    rw [made_tgt] at hw10
    have hb10 : Blk w10 k3 tgt1 87 := by rw [hw10, hk3]; exact Blk.new w9 _ _
    have ht10' : XTouch (fun _ => False) w9 w10 := by rw [hw10]; exact (XTouch.refl _ w9).alloc _
    have ht10 := ht9.trans ht10' (fun _ _ e => e)
    have hs10 : w10.heap.size = w9.heap.size + 1 := by rw [hw10, World.size_alloc]
    refine ⟨ht10.below (Nat.le_refl _) (fun _ e => e.elim), ?_⟩
    rintro vs rfl k4 w11 hk4 hw11
    have hb11 : Blk w11 k4 #[.nilIface, .int .i64 0, .int .i64 0, .slice (some ⟨k3, 0, none⟩) 1 1, .slice (some ⟨k2, 0, none⟩) r r, .int .i64 0] 72 := by rw [hw11, hk4]; exact Blk.new w10 _ _
    have ht11' : XTouch (fun _ => False) w10 w11 := by rw [hw11]; exact (XTouch.refl _ w10).alloc _
    have ht11 := ht10.trans ht11' (fun _ _ e => e)
    have hs11 : w11.heap.size = w10.heap.size + 1 := by rw [hw11, World.size_alloc]
    clear hw11
    refine ⟨ht11.below (Nat.le_refl _) (fun _ e => e.elim), 0, (hb8.keep ht11 (fun e => e)).cell' rfl, split_of (fun q => by cases q) (fun _ => ?_)⟩
    refine split_of (fun q => by cases q) (fun _ => ?_)
    refine ⟨0, (hb8.keep ht11 (fun e => e)).cell' rfl, ?_⟩
    rintro vs3 rfl
    refine ⟨⟨_, hb11.cell' rfl⟩, hb11.frozen _, ?_⟩
    rintro w16 rfl
    exact new_fin h1 h2 (ht8.trans ht11 (fun _ _ e => e)) hb11 (hb10.keep ht11' (fun e => e)) ((hb9.keep ht10' (fun e => e)).keep ht11' (fun e => e)) (by omega) (by omega) (by omega) (by omega) (by omega) (by omega)
end Go.Proofs.YtgcakilmmeopaaaDoor
