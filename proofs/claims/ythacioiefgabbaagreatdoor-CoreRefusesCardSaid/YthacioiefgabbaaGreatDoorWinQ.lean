import Derived.Test.YthacioiefgabbaaGreatDoorWinF
/- The window, part G: the product of two small numbers. No condition. -/
namespace Go.Proofs.YthacioiefgabbaaGreatDoor.win
open Go.RowKit Go.XHeap Go.Sx Go.Sep
set_option linter.unusedVariables false
set_option maxRecDepth 100000
variable {W w' : World} {b : Nat} {w v : WS}

theorem wu64 {e : Int} (h0 : 0 ≤ e) (h1 : e < 18446744073709551616) : IntKind.wrap .u64 e = e := by
  unfold IntKind.wrap
  simp [IntKind.bits, IntKind.signed]
  omega
theorem nu64 {x : Nat} (h : x < 18446744073709551616) : IntKind.wrap .u64 (x : Int) = x := wu64 (by omega) (by omega)
theorem landu64 {x : Nat} (hx : x < 4294967296) : IntKind.wrap .u64 ((BitVec.ofInt (IntKind.bits .u64) (x : Int) &&& BitVec.ofInt (IntKind.bits .u64) 4294967295).toNat : Int) = (x : Int) := by
  have h := Bits.land 64 (x := x) (y := 4294967295) (by omega) (by decide)
  have e : x &&& 4294967295 = x := by
    have := Bits.mask x 32
    rw [show (2 : Nat) ^ 32 - 1 = 4294967295 from rfl] at this
    rw [this]; exact Nat.mod_eq_of_lt hx
  rw [e] at h
  have h2 : (BitVec.ofInt (IntKind.bits .u64) (x : Int) &&& BitVec.ofInt (IntKind.bits .u64) 4294967295).toNat = x := h
  rw [h2]
  exact nu64 (by omega)
theorem fd0 {x : Nat} (hx : x < 4294967296) : Int.fdiv (x : Int) (2 ^ min 32 (IntKind.bits .u64)) = 0 := by
  show Int.fdiv (x : Int) (2 ^ 32) = 0
  rw [Bits.shr]
  have : x / 2 ^ 32 = 0 := Nat.div_eq_of_lt hx
  rw [this]; rfl
theorem mul64_one (W : World) (y : Nat) (hy : y < 4294967296) : Calls Tryz.prog 135 #[.int .u64 1, .int .u64 y] W fun e w => e = .returned (.tuple #[.int .u64 0, .int .u64 y]) ∧ w = W := by
  have l1 := landu64 (x := 1) (by decide)
  have d1 := fd0 (x := 1) (by decide)
  have d0 := fd0 (x := 0) (by decide)
  have l0 := landu64 (x := 0) (by decide)
  have z0 : IntKind.wrap .u64 0 = 0 := rfl
  refine vc135 1 y ?_
  rintro z rfl
  refine ⟨by decide, ?_⟩
  rintro z2 rfl z3 rfl
  refine ⟨by decide, ?_⟩
  rintro z4 rfl z5 rfl z6 rfl
  refine ⟨by decide, ?_⟩
  rintro z7 rfl z8 rfl z9 rfl
  refine ⟨by decide, ?_⟩
  rintro z10 rfl z11 rfl z12 rfl z13 rfl z14 rfl
  refine ⟨by decide, ?_⟩
  rintro z15 rfl z16 rfl z17 rfl
  have l1' : IntKind.wrap .u64 ((BitVec.ofInt (IntKind.bits .u64) 1 &&& BitVec.ofInt (IntKind.bits .u64) 4294967295).toNat : Int) = 1 := l1
  have d1' : Int.fdiv 1 (2 ^ min 32 (IntKind.bits .u64)) = 0 := d1
  have d0' : Int.fdiv 0 (2 ^ min 32 (IntKind.bits .u64)) = 0 := d0
  have l0' : IntKind.wrap .u64 ((BitVec.ofInt (IntKind.bits .u64) 0 &&& BitVec.ofInt (IntKind.bits .u64) 4294967295).toNat : Int) = 0 := l0
  simp only [l1', d1', landu64 hy, fd0 hy, Int.one_mul, Int.zero_mul, Int.mul_zero, nu64 (show y < 18446744073709551616 by omega), Int.add_zero, Int.zero_add, z0, l0', d0']
  exact ⟨trivial, trivial⟩
def tf (m k : Nat) : List Bool := List.replicate m true ++ List.replicate k false
theorem tf_len (m k : Nat) : (tf m k).length = m + k := by simp [tf]
theorem tf_splice {m k j : Nat} (h : j ≤ k) : splice (bools (tf m k)) m ((List.replicate j true).map Value.bool) = bools (tf (m + j) (k - j)) := by
  unfold splice bools tf
  apply Array.toList_inj.1
  simp only [List.map_append, List.map_replicate, List.length_replicate]
  rw [List.take_left' (by simp), List.drop_append, List.drop_replicate, List.length_replicate, List.drop_replicate]
  rw [show m - (m + j) = 0 by omega, show m + j - m = j by omega, ← List.replicate_append_replicate]
  simp
theorem bools_made (n : Nat) : madeCells #[.bool false] (n * 1) = bools (tf 0 n) := by
  rw [Nat.mul_one]
  apply Array.toList_inj.1
  rw [toList_madeCells_one]
  simp [bools, tf]
theorem repeat_true (W : World) {kx : Nat} (hx : Blk W kx #[.bool true] 4) (R : Nat) (h1 : 1 ≤ R) (h2 : R ≤ 1000) :
    Calls Tryz.prog 68 #[.slice (some ⟨kx, 0, none⟩) 1 1, .int .i64 R] W fun e w => ∃ k : Nat, e = .returned (.slice (some ⟨k, 0, none⟩) R R) ∧ Sep.Post emp W (blk k (bools (tf R 0)) 4) w := by
  refine vc68 _ 1 1 R (split_of (fun q => absurd (of_decide_eq_true q) (by omega)) (fun _ => ?_))
  rintro z rfl z2 rfl
  rw [nu64 (show 1 < 18446744073709551616 by decide), nu64 (show R < 18446744073709551616 by omega)]
  refine vc97 1 R ((mul64_one W R (by omega)).mono ?_)
  rintro e w2 ⟨rfl, rfl⟩
  refine ⟨_, _, rfl, _, _, rfl, split_of (fun q => by cases q) (fun _ => split_of (fun q => absurd (of_decide_eq_true q) (by omega)) (fun _ => ?_))⟩
  rintro z5 rfl
  rw [w64 (e := (R : Int)) (by omega) (by omega)]
  refine ⟨⟨by omega, by omega, by omega, by omega⟩, (St.nil w2).al fun k w3 H => ?_⟩
  rw [Int.toNat_natCast]
  have e0 : madeCells #[.bool false] (R * 1) = bools (tf 0 R) := bools_made R
  rw [Int.toNat_natCast, e0] at H
  have H : St w2 (fun _ => False) w3 [blk k (bools (tf 0 R)) 4] := H
  have hx3 : Blk w3 kx #[.bool true] 4 := hx.keep H.touch (fun e => e)
  have hmin : Nat.min 1 R = 1 := Nat.min_eq_left h1
  rw [hmin]
  have hc : ∀ {B : World} {l : List Bool} {L : List Asn}, St w2 (fun _ => False) B (blk k (bools l) 4 :: L) → ∀ i, i < l.length → (∃ u, B.cell? ⟨k, i, none⟩ = some u) ∧ B.frozen? ⟨k, i, none⟩ = false := by
    intro B l L H i hi
    exact ⟨⟨_, H.ld 0 rfl (bools_get (List.getElem?_eq_getElem hi))⟩, (H.blk 0 rfl).frozen i⟩
  refine ⟨[.bool true], rfl, by intro v hv; simp at hv; subst hv; rfl, .inr ⟨⟨_, rfl, fun j u hj => ?_⟩, k, 0, rfl, fun j hj => by rw [Nat.zero_add]; exact hc H j (by rw [tf_len]; simp at hj; omega)⟩, ?_⟩
  · rw [add_none]
    cases j with
    | zero => cases hj; exact hx3.cell' rfl
    | succ j => cases hj
  rintro w4 rfl
  have H := H.wrs 0 rfl 0 ((List.replicate 1 true).map Value.bool) (by rw [bools_size, tf_len]; simp; omega)
  rw [tf_splice h1] at H
  have H : St w2 (fun _ => False) (w3.setCells k 0 [.bool true]) [blk k (bools (tf 1 (R - 1))) 4] := by rw [Nat.zero_add] at H; exact H
  refine ⟨fun x B => ∃ m : Nat, x = m ∧ 1 ≤ m ∧ m ≤ R ∧ St w2 (fun _ => False) B [blk k (bools (tf m (R - m))) 4], fun x _ => R - x.toNat, ⟨1, rfl, by omega, h1, H⟩, fun _ => ?_⟩
  clear H hx3
  rintro x w5 ⟨m, rfl, hm1, hm2, H⟩
  refine split_of (fun q => ?_) (fun q => ?_)
  · have q := of_decide_eq_true q
    refine H.dr fun w6 H => ⟨⟨by omega, by omega⟩, ⟨by omega, by omega⟩, ?_⟩
    rw [Int.toNat_natCast]
    have hj : Nat.min m (R - m) ≤ R - m := Nat.min_le_right _ _
    have hj2 : Nat.min m (R - m) ≤ m := Nat.min_le_left _ _
    have hj3 : 1 ≤ Nat.min m (R - m) := Nat.le_min.2 ⟨hm1, by omega⟩
    generalize Nat.min m (R - m) = j at hj hj2 hj3
    have hsub : Sx.sub (some ⟨k, 0, none⟩) R m 1 = some ⟨k, m, none⟩ := by
      unfold Sx.sub
      rw [if_neg (by omega), Option.map_some, add_none, Nat.zero_add, Nat.mul_one]
    rw [hsub]
    refine ⟨(List.replicate j true).map Value.bool, by simp, by intro v hv; simp at hv; rw [hv.2]; rfl, .inr ⟨⟨_, rfl, fun i u hi => ?_⟩, k, m, rfl, fun i hi => hc H (m + i) (by rw [tf_len]; simp at hi; omega)⟩, ?_⟩
    · rw [add_none, Nat.zero_add]
      have hil : i < j := by have := (List.getElem?_eq_some_iff.1 hi).1; simpa using this
      have hu : u = .bool true := by
        rw [List.getElem?_map, List.getElem?_replicate, if_pos hil] at hi
        exact (Option.some.inj hi).symm
      rw [hu]
      refine H.ld 0 rfl (bools_get ?_)
      unfold tf
      rw [List.getElem?_append_left (by simp; omega), List.getElem?_replicate, if_pos (by omega)]
    rintro w7 rfl
    have H := H.wrs 0 rfl m ((List.replicate j true).map Value.bool) (by rw [bools_size, tf_len]; simp; omega)
    rw [tf_splice hj] at H
    rintro z6 rfl
    rw [w64 (by omega) (by omega)]
    refine ⟨⟨m + j, by omega, by omega, by omega, ?_⟩, by show R - ((m : Int) + (j : Int)).toNat < R - (m : Int).toNat; omega⟩
    rw [show R - (m + j) = R - m - j by omega]
    exact H
  · have q := of_decide_eq_false q
    obtain rfl : m = R := by omega
    rw [Nat.sub_self] at H
    exact ⟨k, rfl, H.new 0 rfl⟩
end Go.Proofs.YthacioiefgabbaaGreatDoor.win
/- The window, part H: New. No condition. -/
namespace Go.Proofs.YthacioiefgabbaaGreatDoor.win
open Go.RowKit Go.XHeap Go.Sx Go.Sep
set_option linter.unusedVariables false
set_option maxRecDepth 100000
variable {W w' : World} {b : Nat} {w v : WS}

def winOk (S R : Int) : Prop := 2 ≤ S ∧ S ≤ 64 ∧ 34 ≤ R ∧ R ≤ 128
instance (S R : Int) : Decidable (winOk S R) := inferInstanceAs (Decidable (_ ∧ _))
theorem wnew_bad (W : World) (S R : Int) (h : ¬ winOk S R) : Calls Tryz.prog 44 #[.int .i64 S, .int .i64 R] W fun e w => e = .returned (.tuple #[.pointer none, errN 2]) ∧ Hush W w := by
  refine vc44 S R (split_of (fun _ => ⟨rfl, XTouch.refl _ _⟩) (fun q1 => split_of (fun _ => ⟨rfl, XTouch.refl _ _⟩) (fun q2 => split_of (fun _ => ⟨rfl, XTouch.refl _ _⟩) (fun q3 => split_of (fun _ => ⟨rfl, XTouch.refl _ _⟩) (fun q4 => ?_)))))
  have q1 := of_decide_eq_false q1
  have q2 := of_decide_eq_false q2
  have q3 := of_decide_eq_false q3
  have q4 := of_decide_eq_false q4
  exact absurd (show winOk S R from ⟨by omega, by omega, by omega, by omega⟩) h
def zeroSlot : Slot := ⟨0, 0, 0, 0, 0, 0⟩
/-- a window as it is made -/
structure WS.Fresh (w : WS) (S R : Nat) : Prop where
  ok : w.Ok
  s : w.S = S
  r : w.R = R
  n : w.n = 0
  next : w.next = 0
  ready : w.ready = List.replicate R true
  head : w.head = 0
theorem wnew_good (W : World) (S R : Nat) (h : winOk S R) : Calls Tryz.prog 44 #[.int .i64 S, .int .i64 R] W fun e w => ∃ x : { x : Nat × WS // x.2.Fresh S R }, e = .returned (.tuple #[.pointer (some ⟨x.1.1, 0, none⟩), .nilIface]) ∧ Sep.Post emp W (winA x.1.1 x.1.2) w := by
  obtain ⟨h1, h2, h3, h4⟩ := h
  have er : madeCells #[.int .i64 0, .int .i64 0, .int .i64 0, .int .i64 0, .int .u8 0, .int .i64 0] (((S : Nat) : Int).toNat * 6) = rows Slot.cells (List.replicate S zeroSlot) := by
    rw [Int.toNat_natCast]; exact rows_made (f := Slot.cells) (x0 := zeroSlot) rfl (by decide) S
  have fresh : ∀ g rg, WS.Fresh ⟨g, S, 0, 0, 0, List.replicate S zeroSlot, rg, R, tf R 0⟩ S R := fun g rg => ⟨⟨by show 2 ≤ S; omega, by show S ≤ 64; omega, by simp, by show 0 < S; omega, Nat.zero_le _, by show 0 < _; decide, by show 34 ≤ R; omega, by show R ≤ 128; omega, by simp [tf], fun s hs => by rw [(List.mem_replicate.1 hs).2]; decide⟩, rfl, rfl, rfl, rfl, by simp [tf], rfl⟩
  -- the end: ring and ready stand
  have fin : ∀ {A : World} {g rg : Nat} {L : List Asn}, St W (fun _ => False) A (blk g (rows Slot.cells (List.replicate S zeroSlot)) 320 :: blk rg (bools (tf R 0)) 4 :: L) → ∀ vs : Array Value, vs = #[.slice (some ⟨g, 0, none⟩) S S, .int .i64 0, .int .i64 0, .int .i64 0, .slice (some ⟨rg, 0, none⟩) R R] → ∀ (k : Nat) (B : World), k = A.heap.size → B = A.alloc (.cells (Value.cells (.agg vs)) 204) →
      ∃ x : { x : Nat × WS // x.2.Fresh S R }, Ending.returned (.tuple #[.pointer (some ⟨k, 0, none⟩), .nilIface]) = .returned (.tuple #[.pointer (some ⟨x.1.1, 0, none⟩), .nilIface]) ∧ Sep.Post emp W (winA x.1.1 x.1.2) B := by
    rintro A g rg L H vs rfl
    refine H.al fun k B H => ⟨⟨(k, ⟨g, S, 0, 0, 0, List.replicate S zeroSlot, rg, R, tf R 0⟩), fresh g rg⟩, rfl, ?_⟩
    have hlast : (blk g (rows Slot.cells (List.replicate S zeroSlot)) 320 :: blk rg (bools (tf R 0)) 4 :: L ++ [blk k (Value.cells (.agg #[.slice (some ⟨g, 0, none⟩) S S, .int .i64 0, .int .i64 0, .int .i64 0, .slice (some ⟨rg, 0, none⟩) R R])) 204])[2 + L.length]? = some (blk k (Value.cells (.agg #[.slice (some ⟨g, 0, none⟩) S S, .int .i64 0, .int .i64 0, .int .i64 0, .slice (some ⟨rg, 0, none⟩) R R])) 204) := by
      rw [List.getElem?_append_right (by simp; omega)]
      simp only [List.length_cons]
      rw [show 2 + L.length - (L.length + 1 + 1) = 0 by omega]
      rfl
    have H := H.front (2 + L.length) hlast
    have e : (blk g (rows Slot.cells (List.replicate S zeroSlot)) 320 :: blk rg (bools (tf R 0)) 4 :: L ++ [blk k (Value.cells (.agg #[.slice (some ⟨g, 0, none⟩) S S, .int .i64 0, .int .i64 0, .int .i64 0, .slice (some ⟨rg, 0, none⟩) R R])) 204]).eraseIdx (2 + L.length) = blk g (rows Slot.cells (List.replicate S zeroSlot)) 320 :: blk rg (bools (tf R 0)) 4 :: L := by
      rw [List.eraseIdx_append_of_length_le (by simp; omega)]
      simp
      omega
    rw [e] at H
    have H : St W (fun _ => False) B ((WS.mk g S 0 0 0 (List.replicate S zeroSlot) rg R (tf R 0)).pieces k ++ L) := H
    exact (St.shut H).new 0 rfl
  refine vc44 S R (split_of (fun q => absurd (of_decide_eq_true q) (by omega)) (fun _ => split_of (fun q => absurd (of_decide_eq_true q) (by omega)) (fun _ => split_of (fun q => absurd (of_decide_eq_true q) (by omega)) (fun _ => split_of (fun q => absurd (of_decide_eq_true q) (by omega)) (fun _ => ?_)))))
  refine (St.nil W).dr fun w2 H => ⟨⟨⟨by omega, by omega, by omega, by omega⟩, ?_⟩, ?_⟩
  · rw [er]
    refine H.alb fun k w3 H _ b3 => ⟨b3, H.alb fun k2 w4 H _ b4 => ⟨b3.trans (b4.mono b3.size), ?_⟩⟩
    refine (repeat_true w4 (H.nth 1 rfl) R (by omega) (by omega)).mono ?_
    rintro e w5 ⟨rg, rfl, hp⟩
    have H := H.add hp
    refine ⟨_, _, _, rfl, ?_⟩
    rw [Int.toNat_natCast]
    exact fin (H.pick [0, 2, 1])
  · refine H.alb fun k2 w3 H _ b3 => ⟨b3, ⟨⟨by omega, by omega, by omega, by omega⟩, ?_⟩, ?_⟩
    · rw [er]
      refine H.alb fun k w4 H _ b4 => ⟨b3.trans (b4.mono b3.size), ?_⟩
      refine (repeat_true w4 (H.nth 0 rfl) R (by omega) (by omega)).mono ?_
      rintro e w5 ⟨rg, rfl, hp⟩
      have H := H.add hp
      refine ⟨_, _, _, rfl, ?_⟩
      rw [Int.toNat_natCast]
      exact fin (H.pick [1, 2, 0])
    · refine (repeat_true w3 (H.nth 0 rfl) R (by omega) (by omega)).mono ?_
      rintro e w5 ⟨rg, rfl, hp⟩
      have H := H.add hp
      refine ⟨_, _, _, rfl, ⟨by omega, by omega, by omega, by omega⟩, ?_⟩
      rw [er]
      refine H.al fun k w6 H => ?_
      rw [Int.toNat_natCast]
      exact fin (H.pick [2, 1, 0])
end Go.Proofs.YthacioiefgabbaaGreatDoor.win
/- Squash, of the program's window. No condition. -/
namespace Go.Proofs.YthacioiefgabbaaGreatDoor.win
open Go.RowKit Go.XHeap Go.Sx Go.Sep
set_option linter.unusedVariables false
set_option maxRecDepth 100000
variable {W w' : World} {b : Nat} {w v : WS}

def blkOf (p : Option Addr) (k : Nat) : Prop := ∃ a, p = some a ∧ a.block = k
theorem own_blk {p : Option Addr} {n c k : Nat} : (Value.slice p n c).ownBlock = some k ↔ blkOf p k := by
  cases p with
  | none => exact ⟨fun h => by (simp [Value.ownBlock] at h), fun ⟨a, h, _⟩ => by cases h⟩
  | some a => exact ⟨fun h => ⟨a, rfl, by simpa [Value.ownBlock] using h⟩, fun ⟨a', h, e⟩ => by cases h; simpa [Value.ownBlock] using e⟩
def WS.sqN (w : WS) (after : Int) : Nat → Nat
  | 0 => 0
  | n + 1 => if after < (w.slot n).seq then w.sqN after n else n + 1
def WS.sqL (w : WS) (after : Int) : Nat → List Int
  | 0 => []
  | n + 1 => if after < (w.slot n).seq then (w.slot n).seq :: w.sqL after n else []
theorem sqN_hit {w : WS} {after : Int} {n : Nat} (h : after < (w.slot n).seq) : w.sqN after (n + 1) = w.sqN after n := by
  show (if after < (w.slot n).seq then w.sqN after n else n + 1) = _
  rw [if_pos h]
theorem sqL_hit {w : WS} {after : Int} {n : Nat} (h : after < (w.slot n).seq) : w.sqL after (n + 1) = (w.slot n).seq :: w.sqL after n := by
  show (if after < (w.slot n).seq then (w.slot n).seq :: w.sqL after n else []) = _
  rw [if_pos h]
theorem sqL_le (w : WS) (after : Int) : ∀ n, (w.sqL after n).length ≤ n
  | 0 => Nat.le_refl _
  | n + 1 => by
    unfold WS.sqL
    split
    · exact Nat.succ_le_succ (sqL_le w after n)
    · exact Nat.zero_le _
def WS.cut (w : WS) (m : Nat) : WS := { w with n := m }
theorem cut_ok (ho : w.Ok) {m : Nat} (hm : m ≤ w.n) : (w.cut m).Ok := ⟨ho.s0, ho.s1, ho.ring, ho.head, Nat.le_trans hm ho.n, ho.next, ho.r0, ho.r1, ho.ready, ho.st⟩
def squA (b : Nat) (w : WS) (l : List Int) (z : Option Addr × Nat) : Asn := all [winA b w, sl 3 1 (.slice z.1 l.length z.2) l.length (intsV l)]
theorem squash_any (ho : w.Ok) (h : (winA b w).at_ W) (after : Int) : Calls Tryz.prog 145 #[.pointer (some ⟨b, 0, none⟩), .int .i64 after] W fun e w2 => ∃ z : Option Addr × Nat, e = .returned (.slice z.1 (w.sqL after w.n).length z.2) ∧ Sep.Post (winA b w) W (squA b (w.cut (w.sqN after w.n)) (w.sqL after w.n) z) w2 := by
  have hs1 := ho.s1
  have hn := ho.n
  have H0 := (win_open h).add (A := sl 3 1 (.slice none 0 0) 0 []) ⟨Sl.nil _ _ _, XTouch.refl _ _, fun q hq => by cases hq⟩
  refine vc145 b 0 after ⟨fun p k c A => ∃ (m : Nat) (l : List Int), k = l.length ∧ m ≤ w.n ∧ l.length + m = w.n ∧ l ++ w.sqL after m = w.sqL after w.n ∧ w.sqN after m = w.sqN after w.n ∧ St W (winA b w).own A ((w.cut m).pieces b ++ [sl 3 1 (.slice p l.length c) l.length (intsV l)]), fun _ k _ _ => w.n - k, ⟨w.n, [], rfl, Nat.le_refl _, by simp, by simp, rfl, H0⟩, fun _ => ?_⟩
  clear H0
  rintro p k c A ⟨m, l, rfl, hm, hlm, hl, hN, H⟩
  have fin : ∀ (B : World) (n : Nat), B = A.drewN n → (m = 0 ∨ ∃ i, m = i + 1 ∧ ¬ after < (w.slot i).seq) → ∃ z : Option Addr × Nat, Ending.returned (.slice p l.length c) = .returned (.slice z.1 (w.sqL after w.n).length z.2) ∧ Sep.Post (winA b w) W (squA b (w.cut (w.sqN after w.n)) (w.sqL after w.n) z) B := by
    rintro B n rfl hc
    have e1 : w.sqL after m = [] ∧ w.sqN after m = m := by
      rcases hc with rfl | ⟨i, rfl, hi⟩
      · exact ⟨rfl, rfl⟩
      · unfold WS.sqL WS.sqN; rw [if_neg hi, if_neg hi]; exact ⟨rfl, rfl⟩
    rw [e1.1, List.append_nil] at hl
    rw [← hl, ← hN, e1.2]
    exact ⟨(p, c), rfl, ((St.shut (H.drewN n)).shut (L := [winA b (w.cut m), _]) (L' := [])).post 0 rfl⟩
  refine ⟨(m : Nat), H.ld 0 rfl rfl, split_of (fun q => ?_) (fun q => ?_)⟩
  · have q := of_decide_eq_true q
    obtain ⟨i, rfl⟩ : ∃ i, m = i + 1 := ⟨m - 1, by omega⟩
    refine ⟨((i + 1 : Nat) : Int), H.ld 0 rfl rfl, ?_⟩
    rintro z3 rfl
    rw [w64 (by omega) (by omega), show (((i + 1 : Nat) : Int) - 1) = (i : Nat) by omega]
    have hcur : (winA b (w.cut (i + 1))).at_ A := (here_append.1 H.here).1
    refine (at_any (cut_ok ho hm) hcur i (by omega)).mono ?_
    rintro e B ⟨rfl, n3, rfl⟩
    have HB := H.drewN n3
    have hg : Blk (A.drewN n3) w.g (rows Slot.cells w.ring) 320 := HB.nth 1 rfl
    refine ⟨_, rfl, ptr_some ⟨(w.slot i).seq, ?_, split_of (fun q1 => ?_) (fun q1 => fin _ n3 rfl (.inr ⟨i, rfl, fun e => by have := of_decide_eq_false q1; omega⟩))⟩⟩
    · rw [add_none]; exact slot_cell ho hg i (q := 5) (by omega) rfl
    have q1 : after < (w.slot i).seq := by have := of_decide_eq_true q1; omega
    refine ⟨((i + 1 : Nat) : Int), HB.ld 0 rfl rfl, ?_⟩
    rintro z6 rfl
    rw [w64 (by omega) (by omega), show (((i + 1 : Nat) : Int) - 1) = (i : Nat) by omega]
    refine HB.st 0 rfl (by show 2 < 5; omega) fun C HC => ?_
    have HC : St W (winA b w).own C ((w.cut i).pieces b ++ [sl 3 1 (.slice p l.length c) l.length (intsV l)]) := HC
    refine ⟨(i : Nat), HC.ld 0 rfl rfl, ?_⟩
    have hcur2 : (winA b (w.cut i)).at_ C := (here_append.1 HC.here).1
    refine (at_any (cut_ok ho (by omega)) hcur2 i (by omega)).mono ?_
    rintro e D ⟨rfl, n5, rfl⟩
    have HD := HC.drewN n5
    have hg2 : Blk (C.drewN n5) w.g (rows Slot.cells w.ring) 320 := HD.nth 1 rfl
    refine ⟨_, rfl, ptr_some ⟨(w.slot i).seq, ?_, HD.al fun k E HE => HE.app 3 rfl [.int .i64 (w.slot i).seq] (.inr ⟨_, rfl, fun j u hj => HE.cells 4 rfl j u (by simpa using hj)⟩) rfl (by intro u hu; simp at hu; subst hu; rfl) (by have : maxLen = 2 ^ 63 - 1 := rfl; omega) (by omega) fun p2 c2 F HF => ?_⟩⟩
    · rw [add_none]; exact slot_cell ho hg2 i (q := 5) (by omega) rfl
    have e2 : l.length + 1 = (l ++ [(w.slot i).seq]).length := by simp
    have e3 : intsV l ++ [Value.int .i64 (w.slot i).seq] = intsV (l ++ [(w.slot i).seq]) := by simp [intsV]
    refine ⟨⟨i, l ++ [(w.slot i).seq], e2, by omega, by rw [← e2]; omega, ?_, ?_, ?_⟩, by show w.n - (l.length + 1) < w.n - l.length; omega⟩
    · rw [← hl]
      show _ = l ++ w.sqL after (i + 1)
      rw [sqL_hit q1]
      simp
    · rw [← hN]
      show _ = w.sqN after (i + 1)
      rw [sqN_hit q1]
    · rw [e2, e3] at HF
      exact HF.take 4
  · have q := of_decide_eq_false q
    exact fin A 0 (by cases A; rfl) (.inl (by omega))
end Go.Proofs.YthacioiefgabbaaGreatDoor.win
