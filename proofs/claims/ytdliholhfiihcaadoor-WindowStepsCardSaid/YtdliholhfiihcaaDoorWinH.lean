/- The window, part H: New. No condition. -/
import Derived.Test.YtdliholhfiihcaaDoorWinG
namespace Go.Proofs.YtdliholhfiihcaaDoor
open Go.RowKit Go.XHeap Go.Sx Go.Sep
set_option linter.unusedVariables false
set_option maxRecDepth 100000
variable {W w' : World} {b : Nat} {w v : WS}

def winOk (S R : Int) : Prop := 2 ≤ S ∧ S ≤ 64 ∧ 34 ≤ R ∧ R ≤ 128
instance (S R : Int) : Decidable (winOk S R) := inferInstanceAs (Decidable (_ ∧ _))
theorem wnew_bad (W : World) (S R : Int) (h : ¬ winOk S R) : Calls Tryd.prog 6 #[.int .i64 S, .int .i64 R] W fun e w => e = .returned (.tuple #[.pointer none, errN 2]) ∧ Hush W w := by
  refine vc6 S R (split_of (fun _ => ⟨rfl, XTouch.refl _ _⟩) (fun q1 => split_of (fun _ => ⟨rfl, XTouch.refl _ _⟩) (fun q2 => split_of (fun _ => ⟨rfl, XTouch.refl _ _⟩) (fun q3 => split_of (fun _ => ⟨rfl, XTouch.refl _ _⟩) (fun q4 => ?_)))))
  have q1 := of_decide_eq_false q1
  have q2 := of_decide_eq_false q2
  have q3 := of_decide_eq_false q3
  have q4 := of_decide_eq_false q4
  exact absurd (show winOk S R from ⟨by omega, by omega, by omega, by omega⟩) h
def zeroSlot : Slot := ⟨0, 0, 0, 0, 0, 0⟩
/-- a window as it is made -/
structure WS.Fresh (w : WS) (S R : Nat) : Prop where
  ok : w.Ok
  s : w.S = S
  r : w.R = R
  n : w.n = 0
  next : w.next = 0
  ready : w.ready = List.replicate R true
  head : w.head = 0
theorem wnew_good (W : World) (S R : Nat) (h : winOk S R) : Calls Tryd.prog 6 #[.int .i64 S, .int .i64 R] W fun e w => ∃ x : { x : Nat × WS // x.2.Fresh S R }, e = .returned (.tuple #[.pointer (some ⟨x.1.1, 0, none⟩), .nilIface]) ∧ Sep.Post emp W (winA x.1.1 x.1.2) w := by
  obtain ⟨h1, h2, h3, h4⟩ := h
  have er : madeCells #[.int .i64 0, .int .i64 0, .int .i64 0, .int .i64 0, .int .u8 0, .int .i64 0] (((S : Nat) : Int).toNat * 6) = rows Slot.cells (List.replicate S zeroSlot) := by
    rw [Int.toNat_natCast]; exact rows_made (f := Slot.cells) (x0 := zeroSlot) rfl (by decide) S
  have fresh : ∀ g rg, WS.Fresh ⟨g, S, 0, 0, 0, List.replicate S zeroSlot, rg, R, tf R 0⟩ S R := fun g rg => ⟨⟨by show 2 ≤ S; omega, by show S ≤ 64; omega, by simp, by show 0 < S; omega, Nat.zero_le _, by show 0 < _; decide, by show 34 ≤ R; omega, by show R ≤ 128; omega, by simp [tf], fun s hs => by rw [(List.mem_replicate.1 hs).2]; decide⟩, rfl, rfl, rfl, rfl, by simp [tf], rfl⟩
  -- the end: ring and ready stand
  have fin : ∀ {A : World} {g rg : Nat} {L : List Asn}, St W (fun _ => False) A (blk g (rows Slot.cells (List.replicate S zeroSlot)) 76 :: blk rg (bools (tf R 0)) 4 :: L) → ∀ vs : Array Value, vs = #[.slice (some ⟨g, 0, none⟩) S S, .int .i64 0, .int .i64 0, .int .i64 0, .slice (some ⟨rg, 0, none⟩) R R] → ∀ (k : Nat) (B : World), k = A.heap.size → B = A.alloc (.cells (Value.cells (.agg vs)) 72) →
      ∃ x : { x : Nat × WS // x.2.Fresh S R }, Ending.returned (.tuple #[.pointer (some ⟨k, 0, none⟩), .nilIface]) = .returned (.tuple #[.pointer (some ⟨x.1.1, 0, none⟩), .nilIface]) ∧ Sep.Post emp W (winA x.1.1 x.1.2) B := by
    rintro A g rg L H vs rfl
    refine H.al fun k B H => ⟨⟨(k, ⟨g, S, 0, 0, 0, List.replicate S zeroSlot, rg, R, tf R 0⟩), fresh g rg⟩, rfl, ?_⟩
    have hlast : (blk g (rows Slot.cells (List.replicate S zeroSlot)) 76 :: blk rg (bools (tf R 0)) 4 :: L ++ [blk k (Value.cells (.agg #[.slice (some ⟨g, 0, none⟩) S S, .int .i64 0, .int .i64 0, .int .i64 0, .slice (some ⟨rg, 0, none⟩) R R])) 72])[2 + L.length]? = some (blk k (Value.cells (.agg #[.slice (some ⟨g, 0, none⟩) S S, .int .i64 0, .int .i64 0, .int .i64 0, .slice (some ⟨rg, 0, none⟩) R R])) 72) := by
      rw [List.getElem?_append_right (by simp; omega)]
      simp only [List.length_cons]
      rw [show 2 + L.length - (L.length + 1 + 1) = 0 by omega]
      rfl
    have H := H.front (2 + L.length) hlast
    have e : (blk g (rows Slot.cells (List.replicate S zeroSlot)) 76 :: blk rg (bools (tf R 0)) 4 :: L ++ [blk k (Value.cells (.agg #[.slice (some ⟨g, 0, none⟩) S S, .int .i64 0, .int .i64 0, .int .i64 0, .slice (some ⟨rg, 0, none⟩) R R])) 72]).eraseIdx (2 + L.length) = blk g (rows Slot.cells (List.replicate S zeroSlot)) 76 :: blk rg (bools (tf R 0)) 4 :: L := by
      rw [List.eraseIdx_append_of_length_le (by simp; omega)]
      simp
      omega
    rw [e] at H
    have H : St W (fun _ => False) B ((WS.mk g S 0 0 0 (List.replicate S zeroSlot) rg R (tf R 0)).pieces k ++ L) := H
    exact (St.shut H).new 0 rfl
  refine vc6 S R (split_of (fun q => absurd (of_decide_eq_true q) (by omega)) (fun _ => split_of (fun q => absurd (of_decide_eq_true q) (by omega)) (fun _ => split_of (fun q => absurd (of_decide_eq_true q) (by omega)) (fun _ => split_of (fun q => absurd (of_decide_eq_true q) (by omega)) (fun _ => ?_)))))
  refine (St.nil W).dr fun w2 H => ⟨⟨⟨by omega, by omega, by omega, by omega⟩, ?_⟩, ?_⟩
  · rw [er]
    refine H.alb fun k w3 H _ b3 => ⟨b3, H.alb fun k2 w4 H _ b4 => ⟨b3.trans (b4.mono b3.size), ?_⟩⟩
    refine (repeat_true w4 (H.nth 1 rfl) R (by omega) (by omega)).mono ?_
    rintro e w5 ⟨rg, rfl, hp⟩
    have H := H.add hp
    refine ⟨_, _, _, rfl, ?_⟩
    rw [Int.toNat_natCast]
    exact fin (H.pick [0, 2, 1])
  · refine H.alb fun k2 w3 H _ b3 => ⟨b3, ⟨⟨by omega, by omega, by omega, by omega⟩, ?_⟩, ?_⟩
    · rw [er]
      refine H.alb fun k w4 H _ b4 => ⟨b3.trans (b4.mono b3.size), ?_⟩
      refine (repeat_true w4 (H.nth 0 rfl) R (by omega) (by omega)).mono ?_
      rintro e w5 ⟨rg, rfl, hp⟩
      have H := H.add hp
      refine ⟨_, _, _, rfl, ?_⟩
      rw [Int.toNat_natCast]
      exact fin (H.pick [1, 2, 0])
    · refine (repeat_true w3 (H.nth 0 rfl) R (by omega) (by omega)).mono ?_
      rintro e w5 ⟨rg, rfl, hp⟩
      have H := H.add hp
      refine ⟨_, _, _, rfl, ⟨by omega, by omega, by omega, by omega⟩, ?_⟩
      rw [er]
      refine H.al fun k w6 H => ?_
      rw [Int.toNat_natCast]
      exact fin (H.pick [2, 1, 0])
end Go.Proofs.YtdliholhfiihcaaDoor
