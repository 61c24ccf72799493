/- The window, part G: the product of two small numbers. No condition. -/
import Derived.Test.YtdliholhfiihcaaDoorWinF
namespace Go.Proofs.YtdliholhfiihcaaDoor
open Go.RowKit Go.XHeap Go.Sx Go.Sep
set_option linter.unusedVariables false
set_option maxRecDepth 100000
variable {W w' : World} {b : Nat} {w v : WS}

theorem wu64 {e : Int} (h0 : 0 ≤ e) (h1 : e < 18446744073709551616) : IntKind.wrap .u64 e = e := by
  unfold IntKind.wrap
  simp [IntKind.bits, IntKind.signed]
  omega
theorem nu64 {x : Nat} (h : x < 18446744073709551616) : IntKind.wrap .u64 (x : Int) = x := wu64 (by omega) (by omega)
theorem landu64 {x : Nat} (hx : x < 4294967296) : IntKind.wrap .u64 ((BitVec.ofInt (IntKind.bits .u64) (x : Int) &&& BitVec.ofInt (IntKind.bits .u64) 4294967295).toNat : Int) = (x : Int) := by
  have h := Bits.land 64 (x := x) (y := 4294967295) (by omega) (by decide)
  have e : x &&& 4294967295 = x := by
    have := Bits.mask x 32
    rw [show (2 : Nat) ^ 32 - 1 = 4294967295 from rfl] at this
    rw [this]; exact Nat.mod_eq_of_lt hx
  rw [e] at h
  have h2 : (BitVec.ofInt (IntKind.bits .u64) (x : Int) &&& BitVec.ofInt (IntKind.bits .u64) 4294967295).toNat = x := h
  rw [h2]
  exact nu64 (by omega)
theorem fd0 {x : Nat} (hx : x < 4294967296) : Int.fdiv (x : Int) (2 ^ min 32 (IntKind.bits .u64)) = 0 := by
  show Int.fdiv (x : Int) (2 ^ 32) = 0
  rw [Bits.shr]
  have : x / 2 ^ 32 = 0 := Nat.div_eq_of_lt hx
  rw [this]; rfl
theorem mul64_one (W : World) (y : Nat) (hy : y < 4294967296) : Calls Tryd.prog 46 #[.int .u64 1, .int .u64 y] W fun e w => e = .returned (.tuple #[.int .u64 0, .int .u64 y]) ∧ w = W := by
  have l1 := landu64 (x := 1) (by decide)
  have d1 := fd0 (x := 1) (by decide)
  have d0 := fd0 (x := 0) (by decide)
  have l0 := landu64 (x := 0) (by decide)
  have z0 : IntKind.wrap .u64 0 = 0 := rfl
  refine vc46 1 y ?_
  rintro z rfl
  refine ⟨by decide, ?_⟩
  rintro z2 rfl z3 rfl
  refine ⟨by decide, ?_⟩
  rintro z4 rfl z5 rfl z6 rfl
  refine ⟨by decide, ?_⟩
  rintro z7 rfl z8 rfl z9 rfl
  refine ⟨by decide, ?_⟩
  rintro z10 rfl z11 rfl z12 rfl z13 rfl z14 rfl
  refine ⟨by decide, ?_⟩
  rintro z15 rfl z16 rfl z17 rfl
  have l1' : IntKind.wrap .u64 ((BitVec.ofInt (IntKind.bits .u64) 1 &&& BitVec.ofInt (IntKind.bits .u64) 4294967295).toNat : Int) = 1 := l1
  have d1' : Int.fdiv 1 (2 ^ min 32 (IntKind.bits .u64)) = 0 := d1
  have d0' : Int.fdiv 0 (2 ^ min 32 (IntKind.bits .u64)) = 0 := d0
  have l0' : IntKind.wrap .u64 ((BitVec.ofInt (IntKind.bits .u64) 0 &&& BitVec.ofInt (IntKind.bits .u64) 4294967295).toNat : Int) = 0 := l0
  simp only [l1', d1', landu64 hy, fd0 hy, Int.one_mul, Int.zero_mul, Int.mul_zero, nu64 (show y < 18446744073709551616 by omega), Int.add_zero, Int.zero_add, z0, l0', d0']
  exact ⟨trivial, trivial⟩
def tf (m k : Nat) : List Bool := List.replicate m true ++ List.replicate k false
theorem tf_len (m k : Nat) : (tf m k).length = m + k := by simp [tf]
theorem tf_splice {m k j : Nat} (h : j ≤ k) : splice (bools (tf m k)) m ((List.replicate j true).map Value.bool) = bools (tf (m + j) (k - j)) := by
  unfold splice bools tf
  apply Array.toList_inj.1
  simp only [List.map_append, List.map_replicate, List.length_replicate]
  rw [List.take_left' (by simp), List.drop_append, List.drop_replicate, List.length_replicate, List.drop_replicate]
  rw [show m - (m + j) = 0 by omega, show m + j - m = j by omega, ← List.replicate_append_replicate]
  simp
theorem bools_made (n : Nat) : madeCells #[.bool false] (n * 1) = bools (tf 0 n) := by
  rw [Nat.mul_one]
  apply Array.toList_inj.1
  rw [toList_madeCells_one]
  simp [bools, tf]
theorem repeat_true (W : World) {kx : Nat} (hx : Blk W kx #[.bool true] 4) (R : Nat) (h1 : 1 ≤ R) (h2 : R ≤ 1000) :
    Calls Tryd.prog 28 #[.slice (some ⟨kx, 0, none⟩) 1 1, .int .i64 R] W fun e w => ∃ k : Nat, e = .returned (.slice (some ⟨k, 0, none⟩) R R) ∧ Sep.Post emp W (blk k (bools (tf R 0)) 4) w := by
  refine vc28 _ 1 1 R (split_of (fun q => absurd (of_decide_eq_true q) (by omega)) (fun _ => ?_))
  rintro z rfl z2 rfl
  rw [nu64 (show 1 < 18446744073709551616 by decide), nu64 (show R < 18446744073709551616 by omega)]
  refine vc38 1 R ((mul64_one W R (by omega)).mono ?_)
  rintro e w2 ⟨rfl, rfl⟩
  refine ⟨_, _, rfl, _, _, rfl, split_of (fun q => by cases q) (fun _ => split_of (fun q => absurd (of_decide_eq_true q) (by omega)) (fun _ => ?_))⟩
  rintro z5 rfl
  rw [w64 (e := (R : Int)) (by omega) (by omega)]
  refine ⟨⟨by omega, by omega, by omega, by omega⟩, (St.nil w2).al fun k w3 H => ?_⟩
  rw [Int.toNat_natCast]
  have e0 : madeCells #[.bool false] (R * 1) = bools (tf 0 R) := bools_made R
  rw [Int.toNat_natCast, e0] at H
  have H : St w2 (fun _ => False) w3 [blk k (bools (tf 0 R)) 4] := H
  have hx3 : Blk w3 kx #[.bool true] 4 := hx.keep H.touch (fun e => e)
  have hmin : Nat.min 1 R = 1 := Nat.min_eq_left h1
  rw [hmin]
  have hc : ∀ {B : World} {l : List Bool} {L : List Asn}, St w2 (fun _ => False) B (blk k (bools l) 4 :: L) → ∀ i, i < l.length → (∃ u, B.cell? ⟨k, i, none⟩ = some u) ∧ B.frozen? ⟨k, i, none⟩ = false := by
    intro B l L H i hi
    exact ⟨⟨_, H.ld 0 rfl (bools_get (List.getElem?_eq_getElem hi))⟩, (H.blk 0 rfl).frozen i⟩
  refine ⟨[.bool true], rfl, by intro v hv; simp at hv; subst hv; rfl, .inr ⟨⟨_, rfl, fun j u hj => ?_⟩, k, 0, rfl, fun j hj => by rw [Nat.zero_add]; exact hc H j (by rw [tf_len]; simp at hj; omega)⟩, ?_⟩
  · rw [add_none]
    cases j with
    | zero => cases hj; exact hx3.cell' rfl
    | succ j => cases hj
  rintro w4 rfl
  have H := H.wrs 0 rfl 0 ((List.replicate 1 true).map Value.bool) (by rw [bools_size, tf_len]; simp; omega)
  rw [tf_splice h1] at H
  have H : St w2 (fun _ => False) (w3.setCells k 0 [.bool true]) [blk k (bools (tf 1 (R - 1))) 4] := by rw [Nat.zero_add] at H; exact H
  refine ⟨fun x B => ∃ m : Nat, x = m ∧ 1 ≤ m ∧ m ≤ R ∧ St w2 (fun _ => False) B [blk k (bools (tf m (R - m))) 4], fun x _ => R - x.toNat, ⟨1, rfl, by omega, h1, H⟩, fun _ => ?_⟩
  clear H hx3
  rintro x w5 ⟨m, rfl, hm1, hm2, H⟩
  refine split_of (fun q => ?_) (fun q => ?_)
  · have q := of_decide_eq_true q
    refine H.dr fun w6 H => ⟨⟨by omega, by omega⟩, ⟨by omega, by omega⟩, ?_⟩
    rw [Int.toNat_natCast]
    have hj : Nat.min m (R - m) ≤ R - m := Nat.min_le_right _ _
    have hj2 : Nat.min m (R - m) ≤ m := Nat.min_le_left _ _
    have hj3 : 1 ≤ Nat.min m (R - m) := Nat.le_min.2 ⟨hm1, by omega⟩
    generalize Nat.min m (R - m) = j at hj hj2 hj3
    have hsub : Sx.sub (some ⟨k, 0, none⟩) R m 1 = some ⟨k, m, none⟩ := by
      unfold Sx.sub
      rw [if_neg (by omega), Option.map_some, add_none, Nat.zero_add, Nat.mul_one]
    rw [hsub]
    refine ⟨(List.replicate j true).map Value.bool, by simp, by intro v hv; simp at hv; rw [hv.2]; rfl, .inr ⟨⟨_, rfl, fun i u hi => ?_⟩, k, m, rfl, fun i hi => hc H (m + i) (by rw [tf_len]; simp at hi; omega)⟩, ?_⟩
    · rw [add_none, Nat.zero_add]
      have hil : i < j := by have := (List.getElem?_eq_some_iff.1 hi).1; simpa using this
      have hu : u = .bool true := by
        rw [List.getElem?_map, List.getElem?_replicate, if_pos hil] at hi
        exact (Option.some.inj hi).symm
      rw [hu]
      refine H.ld 0 rfl (bools_get ?_)
      unfold tf
      rw [List.getElem?_append_left (by simp; omega), List.getElem?_replicate, if_pos (by omega)]
    rintro w7 rfl
    have H := H.wrs 0 rfl m ((List.replicate j true).map Value.bool) (by rw [bools_size, tf_len]; simp; omega)
    rw [tf_splice hj] at H
    rintro z6 rfl
    rw [w64 (by omega) (by omega)]
    refine ⟨⟨m + j, by omega, by omega, by omega, ?_⟩, by show R - ((m : Int) + (j : Int)).toNat < R - (m : Int).toNat; omega⟩
    rw [show R - (m + j) = R - m - j by omega]
    exact H
  · have q := of_decide_eq_false q
    obtain rfl : m = R := by omega
    rw [Nat.sub_self] at H
    exact ⟨k, rfl, H.new 0 rfl⟩
end Go.Proofs.YtdliholhfiihcaaDoor
