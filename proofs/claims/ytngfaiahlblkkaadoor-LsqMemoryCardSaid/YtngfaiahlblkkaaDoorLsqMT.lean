/- The law 'LsqMemory': one turn of one access, walked. No condition. -/
import Derived.Test.YtngfaiahlblkkaaDoorLsqMW
namespace Go.Proofs.YtngfaiahlblkkaaDoor
open Go.RowKit Go.XHeap Go.Sx Go.Sep Go.Bits
set_option linter.unusedVariables false
set_option maxRecDepth 100000
variable {a : Nat → Ac} {X : RX} {W0 W : World}

/-! ### a number's byte is set -/
theorem hiB_set {f : Nat → Nat} (hf : ∀ x, f x < 256) {y : Nat} (hy : y < 256) : ∀ m s c, c < m → 2 ^ (8 * c + 8) * (hiB f m s / 2 ^ (8 * c + 8)) + (2 ^ (8 * c) * y + hiB f m s % 2 ^ (8 * c)) = hiB (upd f (s + c) y) m s
  | 0, _, _, h => absurd h (Nat.not_lt_zero _)
  | m + 1, s, 0, _ => by
    have h1 := hf s
    have e1 : hiB (upd f (s + 0) y) m (s + 1) = hiB f m (s + 1) := hiB_congr _ _ fun c _ => upd_other _ _ (by omega)
    show 256 * ((f s + 256 * hiB f m (s + 1)) / 256) + (1 * y + (f s + 256 * hiB f m (s + 1)) % 1) = upd f (s + 0) y s + 256 * hiB (upd f (s + 0) y) m (s + 1)
    rw [e1, show upd f (s + 0) y s = y from upd_same f s y]
    omega
  | m + 1, s, c + 1, h => by
    have h1 := hf s
    have ih := hiB_set hf hy m (s + 1) c (by omega)
    have e1 : s + (c + 1) = s + 1 + c := by omega
    show 2 ^ (8 * (c + 1) + 8) * ((f s + 256 * hiB f m (s + 1)) / 2 ^ (8 * (c + 1) + 8)) + (2 ^ (8 * (c + 1)) * y + (f s + 256 * hiB f m (s + 1)) % 2 ^ (8 * (c + 1))) = upd f (s + (c + 1)) y s + 256 * hiB (upd f (s + (c + 1)) y) m (s + 1)
    rw [upd_other f y (show s ≠ s + (c + 1) by omega), e1, ← ih]
    generalize hiB f m (s + 1) = H
    have p1 : 2 ^ (8 * (c + 1)) = 256 * 2 ^ (8 * c) := by rw [show 8 * (c + 1) = 8 + 8 * c by omega, Nat.pow_add]
    have p2 : 2 ^ (8 * (c + 1) + 8) = 256 * 2 ^ (8 * c + 8) := by rw [show 8 * (c + 1) + 8 = 8 + (8 * c + 8) by omega, Nat.pow_add]
    have d1 : ∀ P, (f s + 256 * H) / (256 * P) = H / P := fun P => by
      rw [← Nat.div_div_eq_div_mul, show (f s + 256 * H) / 256 = H by omega]
    have m1 : ∀ P, 0 < P → (f s + 256 * H) % (256 * P) = f s + 256 * (H % P) := fun P hP => by
      rw [Nat.mod_mul, show (f s + 256 * H) % 256 = f s by omega, show (f s + 256 * H) / 256 = H by omega]
    rw [p1, p2, d1, m1 _ (Nat.two_pow_pos _)]
    rw [Nat.mul_assoc, Nat.mul_assoc]
    generalize 2 ^ (8 * c + 8) * (H / 2 ^ (8 * c + 8)) = u
    generalize 2 ^ (8 * c) * y = v
    omega
/-- the bytes that a store has, and memory's -/
def gB (X : RX) (F : Src) (B b : Nat) : Nat → Nat := fun x => if B ≤ x ∧ x < B + b ∧ (F (x - B)).isSome = true then byteOf (64 + x) (F (x - B)) else X.mem x
theorem gB_lt (h : Inv a X) (F : Src) (B b x : Nat) : gB X F B b x < 256 := by
  unfold gB
  split
  · exact byte_lt _ _
  · exact h.mem_lt x
theorem gB_zero (F : Src) (B : Nat) : gB X F B 0 = X.mem := by
  funext x
  exact if_neg (by omega)
theorem gB_some (F : Src) {B b : Nat} (h : (F b).isSome = true) : upd (gB X F B b) (B + b) (byteOf (64 + (B + b)) (F b)) = gB X F B (b + 1) := by
  funext x
  unfold upd gB
  by_cases e : x = B + b
  · subst e
    rw [if_pos rfl, Nat.add_sub_cancel_left, if_pos ⟨by omega, by omega, h⟩]
  · rw [if_neg e]
    by_cases e2 : B ≤ x ∧ x < B + b ∧ (F (x - B)).isSome = true
    · rw [if_pos e2, if_pos ⟨e2.1, by omega, e2.2.2⟩]
    · rw [if_neg e2, if_neg fun e3 => e2 ⟨e3.1, by omega, e3.2.2⟩]
theorem gB_none (F : Src) {B b : Nat} (h : (F b).isSome = false) : gB X F B b = gB X F B (b + 1) := by
  funext x
  unfold gB
  by_cases e : x = B + b
  · subst e
    rw [Nat.add_sub_cancel_left, if_neg (by omega), if_neg (by rw [h]; rintro ⟨-, -, e⟩; cases e)]
  · by_cases e2 : B ≤ x ∧ x < B + b ∧ (F (x - B)).isSome = true
    · rw [if_pos e2, if_pos ⟨e2.1, by omega, e2.2.2⟩]
    · rw [if_neg e2, if_neg fun e3 => e2 ⟨e3.1, by omega, e3.2.2⟩]
theorem gB_hit {F : Src} {B b x : Nat} {e : En} (h : F (x - B) = some e) (h1 : B ≤ x) (h2 : x < B + b) : gB X F B b x = byteOf (64 + x) (some e) := by
  unfold gB
  rw [if_pos ⟨h1, h2, by rw [h]; rfl⟩, h]
theorem gB_miss {F : Src} {B b x : Nat} (h : F (x - B) = none) : gB X F B b x = X.mem x := if_neg (by rw [h]; rintro ⟨-, -, e⟩; cases e)
theorem mask_bit (F : Src) {b : Nat} (h : b < 4) : maskF F / 2 ^ b % 2 = if (F b).isSome = true then 1 else 0 := by
  unfold maskF maskB
  match b, h with
  | 0, _ => show _ / 1 % 2 = _; generalize (F 0).isSome = x0; generalize (F 1).isSome = x1; generalize (F 2).isSome = x2; generalize (F 3).isSome = x3; revert x0 x1 x2 x3; decide
  | 1, _ => show _ / 2 % 2 = _; generalize (F 0).isSome = x0; generalize (F 1).isSome = x1; generalize (F 2).isSome = x2; generalize (F 3).isSome = x3; revert x0 x1 x2 x3; decide
  | 2, _ => show _ / 4 % 2 = _; generalize (F 0).isSome = x0; generalize (F 1).isSome = x1; generalize (F 2).isSome = x2; generalize (F 3).isSome = x3; revert x0 x1 x2 x3; decide
  | 3, _ => show _ / 8 % 2 = _; generalize (F 0).isSome = x0; generalize (F 1).isSome = x1; generalize (F 2).isSome = x2; generalize (F 3).isSome = x3; revert x0 x1 x2 x3; decide
theorem val_byte (A : Nat) (F : Src) {b : Nat} (h : b < 4) : valF A F / 2 ^ (8 * b) % 256 = byteOf (A + b) (F b) := by
  have h0 := byte_lt (A + 0) (F 0)
  have h1 := byte_lt (A + 1) (F 1)
  have h2 := byte_lt (A + 2) (F 2)
  have h3 := byte_lt (A + 3) (F 3)
  unfold valF
  match b, h with
  | 0, _ => show _ / 1 % 256 = byteOf (A + 0) (F 0); omega
  | 1, _ => show _ / 256 % 256 = byteOf (A + 1) (F 1); omega
  | 2, _ => show _ / 65536 % 256 = byteOf (A + 2) (F 2); omega
  | 3, _ => show _ / 16777216 % 256 = byteOf (A + 3) (F 3); omega
/-- what a load got is what it may get -/
theorem load_val (h : Inv a X) {i k : Nat} (hk : X.J[i]? = some k) {F : Src} (hF : F = srcs ((X.J.map (entR a X)).take i) (64 + (a k).B) (a k).S) (hw : waitF F = false) {r : Nat → Int} (hr : ∀ c, r c = frI (F c)) :
    hiB (gB X F (a k).B (a k).S) (a k).S (a k).B = hiB (fun x => if r (x - (a k).B) = -1 then X.mem x else byteD a (r (x - (a k).B)).toNat x) (a k).S (a k).B := by
  have hS := (a k).S_is
  refine hiB_congr _ _ fun c hc => ?_
  have hsrc := src_ent h hk ((a k).B + c)
  have e1 : F c = srcOf ((X.J.map (entR a X)).take i) (64 + ((a k).B + c)) := by
    rw [hF]
    unfold srcs
    rw [if_pos hc, Nat.add_assoc]
  have hwc : waitO (F c) = false := by
    unfold waitF at hw
    rw [List.any_eq_false] at hw
    exact Bool.eq_false_iff.2 (hw c (List.mem_range.2 (by omega)))
  have e2 : (a k).B + c - (a k).B = c := Nat.add_sub_cancel_left _ _
  rcases Option.eq_none_or_eq_some (F c) with ho | ⟨e, ho⟩
  · rw [gB_miss (by rw [e2]; exact ho), e2, hr, ho, if_pos (show frI none = -1 from rfl)]
  · rw [gB_hit (by rw [e2]; exact ho) (by omega) (by omega), e2, hr, ho]
    rw [ho] at e1 hwc
    obtain ⟨j, rfl, hj, hc2, hjJ⟩ := hsrc.2 e e1.symm
    rw [if_neg (show ¬ frI (some (entR a X j)) = -1 by show ¬ ((j : Nat) : Int) = -1; omega)]
    have hkn : X.known j = true := by
      have : (!X.known j) = false := hwc
      simpa using this
    show (if X.known j then (a j).data else 0) / 2 ^ (8 * (64 + ((a k).B + c) - (if X.given j then 64 + (a j).B else 0))) % 256 = byteD a ((j : Nat) : Int).toNat ((a k).B + c)
    rw [hkn, hc2.2.2.1, if_pos rfl, if_pos rfl, Int.toNat_natCast]
    unfold byteD
    rw [Nat.add_sub_add_left]
theorem load_src (h : Inv a X) {i k : Nat} (hk : X.J[i]? = some k) {F : Src} (hF : F = srcs ((X.J.map (entR a X)).take i) (64 + (a k).B) (a k).S) {r : Nat → Int} (hr : ∀ c, r c = frI (F c)) : ∀ c, c < (a k).S → SrcIs a X k ((a k).B + c) (r c) := by
  intro c hc
  rw [hr, hF]
  unfold srcs
  rw [if_pos hc, Nat.add_assoc]
  exact (src_ent h hk ((a k).B + c)).1
/-- the oldest load need not wait -/
theorem no_wait (h : Inv a X) {i : Nat} (hk : X.J[i]? = some X.out) : waitF (srcs ((X.J.map (entR a X)).take i) (64 + (a X.out).B) (a X.out).S) = false ∧ ((X.J.map (entR a X)).take i).any unplaced = false := by
  constructor
  · unfold waitF
    rw [List.any_eq_false]
    intro c hc
    have hw : waitO (srcs ((X.J.map (entR a X)).take i) (64 + (a X.out).B) (a X.out).S c) = false := by
      unfold srcs
      split
      · rw [Nat.add_assoc]
        cases ho : srcOf ((X.J.map (entR a X)).take i) (64 + ((a X.out).B + c)) with
        | none => rfl
        | some e =>
          obtain ⟨j, rfl, hj, hc2, hjJ⟩ := (src_ent h hk ((a X.out).B + c)).2 e ho
          show (!X.known j) = false
          rw [(h.old j hj).2 hc2.2.1]; rfl
      · rfl
    rw [hw]; decide
  · rw [List.any_eq_false]
    intro e he
    rw [← List.map_take] at he
    obtain ⟨j, hj, rfl⟩ := List.mem_map.1 he
    have hjl := ((mem_take h.sorted hk j).1 hj).2
    have : unplaced (entR a X j) = false := by
      show ((a j).store && !X.given j) = false
      rw [(h.old j hjl).1, Bool.not_true, Bool.and_false]
    rw [this]; decide
end Go.Proofs.YtngfaiahlblkkaaDoor
