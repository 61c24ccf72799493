/- Part G of the proofs over 'predict': pick, places. No condition. -/
import Derived.Test.YtgcakilmmeopaaaDoorF
namespace Go.Proofs.YtgcakilmmeopaaaDoor
open Go.RowKit Go.XHeap Go.Sx
set_option linter.unusedVariables false
set_option maxRecDepth 100000

theorem pick_any (W : World) (c n : Int) (h0 : -9223372036854775808 ≤ c) (hn : 0 < n) : Calls Tryd.prog 6 #[.int .i64 c, .int .i64 n] W fun e w => e = .returned (.int .i64 (pk c n)) ∧ w = W := by
  refine vc6 c n (split_of (fun h => ?_) (fun h => ?_))
  · have hc : c < 0 := of_decide_eq_true h
    rintro z rfl
    refine ⟨by omega, ?_⟩
    rintro z2 rfl
    rw [w64 (e := c + 1) (by omega) (by omega), w64 (e := 0 - (c + 1)) (by omega) (by omega)]
    refine ⟨?_, rfl⟩
    unfold pk
    rw [if_pos hc, Int.zero_sub]
  · have hc : ¬ c < 0 := of_decide_eq_false h
    refine ⟨by omega, ?_⟩
    rintro z3 rfl
    refine ⟨?_, rfl⟩
    unfold pk
    rw [if_neg hc]
/-- the caller's places can be read -/
def Pcs (W : World) (p : Option Addr) (n : Nat) : Prop := ∀ i, i < n → ∃ g o, p = some ⟨g, o, none⟩ ∧ g < W.heap.size ∧ ∃ x : Int, W.cell? ⟨g, o + i, none⟩ = some (.int .u32 x)
theorem places_any {W : World} (p : Option Addr) (n c : Nat) (hp : Pcs W p n) : Calls Tryd.prog 8 #[.slice p n c] W fun e w => ∃ k l, e = .returned (.slice (some ⟨k, 0, none⟩) 16 16) ∧ Blk w k (u32s l).toArray 35 ∧ l.length = 16 ∧ W.heap.size ≤ k ∧ XTouch (fun _ => False) W w := by
  refine vc8 p n c ?_
  refine ⟨⟨by omega, by omega, by omega, by omega⟩, ?_⟩
  rintro k w2 hk hw2
  rw [show madeCells #[Value.int IntKind.u32 0] 16 = (u32s (List.replicate 16 0)).toArray from made_stack 16] at hw2
  refine ⟨fun x w => ∃ m : Nat, x = m ∧ m ≤ 16 ∧ ∃ l : List Int, Blk w k (u32s l).toArray 35 ∧ l.length = 16 ∧ XTouch (fun _ => False) W w, fun x _ => 16 - x.toNat, ⟨0, rfl, by omega, List.replicate 16 0, ?_, List.length_replicate .., ?_⟩, fun _ => ?_⟩
  · rw [hw2, hk]; exact Blk.new W _ _
  · rw [hw2]; exact (XTouch.refl _ W).alloc _
  rintro x w3 ⟨m, rfl, hm, l, hb, hl, ht⟩
  have em : 0 + ((m : Nat) : Int).toNat * 1 = m := by omega
  have put : ∀ {w : World} {l : List Int} (v : Int), Blk w k (u32s l).toArray 35 → Blk (w.setCell ⟨k, m, none⟩ (.int .u32 v)) k (u32s (l.set m v)).toArray 35 := by
    intro w l v hb
    have := hb.set m (.int .u32 v)
    have e : (u32s l).toArray.setIfInBounds m (.int .u32 v) = (u32s (l.set m v)).toArray := by
      apply Array.toList_inj.1
      simp [u32s, List.map_set]
    rw [e] at this
    exact this
  have hk' : W.heap.size ≤ k := by omega
  refine split_of (fun q => ?_) (fun q => ?_)
  · have q := of_decide_eq_true q
    rintro z rfl z2 rfl
    refine ⟨⟨by omega, by omega⟩, ?_⟩
    rw [em]
    refine ⟨?_, hb.frozen _, ?_⟩
    · rw [hb.cell]
      exact ⟨_, Array.getElem?_eq_getElem (by simp [u32s_len, hl]; omega)⟩
    rintro w4 rfl
    have hb4 := put (IntKind.wrap .u32 (IntKind.wrap .i64 (8 * (m : Int)))) hb
    have ht4 := ht.setCell (p := ⟨k, m, none⟩) (.inr hk') (.int .u32 (IntKind.wrap .u32 (IntKind.wrap .i64 (8 * (m : Int)))))
    have hl4 : (l.set m (IntKind.wrap .u32 (IntKind.wrap .i64 (8 * (m : Int))))).length = 16 := by simp [hl]
    refine split_of (fun q2 => ?_) (fun q2 => ?_)
    · have q2 := of_decide_eq_true q2
      obtain ⟨g, o, rfl, hg, x, hx⟩ := hp m (by omega)
      refine ⟨⟨by omega, by omega⟩, ?_⟩
      show ∃ z3 : Int, World.cell? _ ⟨g, o + ((m : Nat) : Int).toNat * 1, none⟩ = some (.int .u32 z3) ∧ _
      rw [show o + ((m : Nat) : Int).toNat * 1 = o + m by omega]
      refine ⟨x, (ht4.cell (p := ⟨g, o + m, none⟩) hg (fun e => e)).trans hx, by decide, ?_⟩
      rintro z4 rfl z5 rfl
      refine ⟨⟨by omega, by omega⟩, ?_⟩
      refine ⟨?_, hb4.frozen _, ?_⟩
      · rw [hb4.cell]
        exact ⟨_, Array.getElem?_eq_getElem (by simp [u32s_len, hl]; omega)⟩
      rintro w5 rfl z6 rfl
      rw [w64 (by omega) (by omega)]
      exact ⟨⟨m + 1, by omega, by omega, _, put _ hb4, by rw [List.length_set]; exact hl4, ht4.setCell (p := ⟨k, m, none⟩) (.inr hk') _⟩, by show 16 - ((m : Int) + 1).toNat < 16 - (m : Int).toNat; omega⟩
    · rintro z7 rfl
      rw [w64 (e := (m : Int) + 1) (by omega) (by omega)]
      exact ⟨⟨m + 1, by omega, by omega, _, hb4, hl4, ht4⟩, by show 16 - ((m : Int) + 1).toNat < 16 - (m : Int).toNat; omega⟩
  · exact ⟨k, l, rfl, hb, hl, hk', ht⟩
end Go.Proofs.YtgcakilmmeopaaaDoor
