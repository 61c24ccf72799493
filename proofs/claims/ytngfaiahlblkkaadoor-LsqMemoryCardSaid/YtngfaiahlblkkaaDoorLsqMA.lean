/- The law 'LsqMemory', part A: numbers and bytes: pick, where, bytes; rows of cells that a function describes. No condition. -/
import Derived.Test.YtngfaiahlblkkaaDoorLsqH
import Derived.Test.YtngfaiahlblkkaaDoorLsqMVc
namespace Go.Proofs.YtngfaiahlblkkaaDoor
open Go.RowKit Go.XHeap Go.Sx Go.Sep Go.Bits
set_option linter.unusedVariables false
set_option maxRecDepth 100000
variable {W A : World}

/-! ### rows of cells -/
def fnV (n : Nat) (g : Nat → Value) : Array Value := ((List.range n).map g).toArray
def upd {α : Type} (f : Nat → α) (i : Nat) (x : α) : Nat → α := fun j => if j = i then x else f j
theorem upd_same {α : Type} (f : Nat → α) (i : Nat) (x : α) : upd f i x i = x := if_pos rfl
theorem upd_other {α : Type} (f : Nat → α) {i j : Nat} (x : α) (h : j ≠ i) : upd f i x j = f j := if_neg h
theorem fn_size (n : Nat) (g : Nat → Value) : (fnV n g).size = n := by simp [fnV]
theorem fn_get {n i : Nat} (g : Nat → Value) (h : i < n) : (fnV n g)[i]? = some (g i) := by simp [fnV, h]
theorem fn_set {n : Nat} (g g' : Nat → Value) (i : Nat) (v : Value) (h : ∀ j, j < n → g' j = if j = i then v else g j) : (fnV n g).setIfInBounds i v = fnV n g' := by
  apply Array.ext_getElem?
  intro j
  rw [Array.getElem?_setIfInBounds]
  by_cases hj : j < n
  · rw [fn_get g' hj, h j hj]
    by_cases e : i = j
    · subst e; rw [if_pos rfl, if_pos rfl, fn_size, if_pos hj]
    · rw [if_neg e, if_neg (fun h => e h.symm), fn_get g hj]
  · have h1 : (fnV n g')[j]? = none := by rw [Array.getElem?_eq_none_iff, fn_size]; omega
    have h2 : (fnV n g)[j]? = none := by rw [Array.getElem?_eq_none_iff, fn_size]; omega
    rw [h1, h2, fn_size]
    split
    · rename_i e; rw [if_neg (by omega)]
    · rfl
theorem fn_made (n : Nat) (v : Value) : madeCells #[v] n = fnV n fun _ => v := by
  apply Array.ext_getElem?
  intro j
  simp only [madeCells, fnV]
  simp
  by_cases h : j < n
  · simp [h, Nat.mod_one]
  · simp [h]
def boolsV (n : Nat) (f : Nat → Bool) : Array Value := fnV n fun i => .bool (f i)
theorem bools_get {n i : Nat} (f : Nat → Bool) (h : i < n) : (boolsV n f)[i]? = some (.bool (f i)) := fn_get _ h
theorem bools_set (n : Nat) (f : Nat → Bool) (i : Nat) (x : Bool) : (boolsV n f).setIfInBounds i (.bool x) = boolsV n (upd f i x) := fn_set _ _ _ _ fun j _ => by
  unfold upd; split <;> rfl
def natsV (κ : IntKind) (n : Nat) (f : Nat → Nat) : Array Value := fnV n fun i => .int κ (f i)
theorem nats_get {κ : IntKind} {n i : Nat} (f : Nat → Nat) (h : i < n) : (natsV κ n f)[i]? = some (.int κ (f i)) := fn_get _ h
theorem nats_set (κ : IntKind) (n : Nat) (f : Nat → Nat) (i x : Nat) : (natsV κ n f).setIfInBounds i (.int κ x) = natsV κ n (upd f i x) := fn_set _ _ _ _ fun j _ => by
  unfold upd; split <;> rfl
/-! ### accesses -/
structure Ac where
  store : Bool
  addr : Int
  size : Int
  data : Nat
  hs : -9223372036854775808 ≤ size ∧ size ≤ 9223372036854775807
  ha : -9223372036854775808 ≤ addr ∧ addr ≤ 9223372036854775807
  hd : data < 4294967296
def Ac.cells (a : Ac) : Array Value := #[.bool a.store, .int .i64 a.addr, .int .i64 a.size, .int .u32 (a.data : Int)]
def pickN (c n : Int) : Nat := (if c < 0 then (-(c + 1)) % n else c % n).toNat
theorem pick_lt {c : Int} {n : Nat} (h : 0 < n) : pickN c n < n := by
  unfold pickN
  have h1 : ∀ x : Int, (x % (n : Int)).toNat < n := fun x => by
    have h2 := Int.emod_nonneg x (show (n : Int) ≠ 0 by omega)
    have h3 := Int.emod_lt_of_pos x (show (0 : Int) < n by omega)
    omega
  split
  · exact h1 _
  · exact h1 _
theorem pick_any (W : World) (c : Int) (n : Nat) (hc : -9223372036854775808 ≤ c ∧ c ≤ 9223372036854775807) (hn : 0 < n) : Calls Tryd.prog 6 #[.int .i64 c, .int .i64 n] W fun e w => e = .returned (.int .i64 (pickN c n : Nat)) ∧ w = W := by
  have h2 : ∀ x : Int, ((x % (n : Int)).toNat : Int) = x % n := fun x => by
    have h2 := Int.emod_nonneg x (show (n : Int) ≠ 0 by omega)
    omega
  refine vc6 c n (split_of (fun q => ?_) (fun q => ?_))
  · have q := of_decide_eq_true q
    rintro z rfl
    rw [w64 (e := c + 1) (by omega) (by omega)]
    refine ⟨by omega, ?_⟩
    rw [w64 (by omega) (by omega)]
    rintro z2 rfl
    refine ⟨?_, rfl⟩
    unfold pickN
    rw [if_pos q, h2, show (0 : Int) - (c + 1) = -(c + 1) by omega, Int.tmod_eq_emod_of_nonneg (by omega)]
  · have q := of_decide_eq_false q
    refine ⟨by omega, ?_⟩
    rintro z2 rfl
    refine ⟨?_, rfl⟩
    unfold pickN
    rw [if_neg q, h2, Int.tmod_eq_emod_of_nonneg (by omega)]
def szOf : Nat → Nat
  | 0 => 1
  | 1 => 2
  | _ => 4
def Ac.S (a : Ac) : Nat := szOf (pickN a.size 3)
/-- where among the sixteen bytes -/
def Ac.B (a : Ac) : Nat := pickN a.addr ((16 / a.S : Nat) : Int) * a.S
theorem Ac.S_is (a : Ac) : a.S = 1 ∨ a.S = 2 ∨ a.S = 4 := by
  unfold Ac.S szOf
  split <;> simp
theorem Ac.fits (a : Ac) : a.B + a.S ≤ 16 ∧ a.B % a.S = 0 := by
  unfold Ac.B
  have h1 : pickN a.addr ((16 / a.S : Nat) : Int) < 16 / a.S := pick_lt (by rcases a.S_is with e | e | e <;> rw [e] <;> decide)
  refine ⟨?_, Nat.mul_mod_left _ _⟩
  revert h1
  generalize pickN a.addr ((16 / a.S : Nat) : Int) = p
  rcases a.S_is with e | e | e <;> rw [e]
  · show p < 16 → _; omega
  · show p < 8 → _; omega
  · show p < 4 → _; omega
theorem where_any (W : World) (a : Ac) : Calls Tryd.prog 12 #[.agg a.cells] W fun e w => e = .returned (.tuple #[.int .u32 (64 + a.B : Nat), .int .i64 (a.S : Nat)]) ∧ Hush W w := by
  refine vc12 a.cells ((St.nil W).al fun k B H => H.al fun k2 C H => ?_)
  have H : St W No C [blk k a.cells 41, blk k2 #[.int .i64 1, .int .i64 2, .int .i64 4] 3] := H
  refine ⟨a.size, H.ld 0 rfl rfl, ?_⟩
  refine (pick_any C a.size 3 a.hs (by decide)).mono ?_
  rintro e D ⟨rfl, rfl⟩
  have h3 : pickN a.size ((3 : Nat) : Int) < 3 := pick_lt (by decide)
  refine ⟨_, rfl, ⟨by omega, by omega⟩, ?_⟩
  have hcell : D.cell? ⟨k2, 0 + ((pickN a.size ((3 : Nat) : Int) : Nat) : Int).toNat * 1, none⟩ = some (.int .i64 (a.S : Nat)) := by
    refine H.ld 1 rfl ?_
    rw [Int.toNat_natCast, Nat.mul_one, Nat.zero_add]
    unfold Ac.S
    rw [show ((3 : Nat) : Int) = 3 from rfl] at h3 ⊢
    match pickN a.size 3, h3 with
    | 0, _ => rfl
    | 1, _ => rfl
    | 2, _ => rfl
  refine ⟨_, hcell, a.addr, H.ld 0 rfl rfl, ?_⟩
  have hS := a.S_is
  refine ⟨by omega, ?_⟩
  have e1 : IntKind.wrap .i64 (Int.tdiv 16 ((a.S : Nat) : Int)) = ((16 / a.S : Nat) : Int) := by
    rw [show (16 : Int) = ((16 : Nat) : Int) from rfl, Bits.tdiv, n64 (by have := Nat.div_le_self 16 a.S; omega)]
  rintro z5 rfl
  rw [e1]
  have hp : 0 < 16 / a.S := by rcases hS with e | e | e <;> rw [e] <;> decide
  refine ⟨((pickN a.addr ((16 / a.S : Nat) : Int) : Nat) : Int), fun k3 => (pick_any _ a.addr (16 / a.S) a.ha hp).mono ?_, ?_⟩
  · rintro e w ⟨rfl, rfl⟩
    exact ⟨rfl, _, rfl⟩
  have hf := a.fits
  have eB : ((pickN a.addr ((16 / a.S : Nat) : Int) : Nat) : Int) * ((a.S : Nat) : Int) = ((a.B : Nat) : Int) := by unfold Ac.B; exact (Int.natCast_mul _ _).symm
  rintro z7 rfl
  rw [eB, n64 (by omega)]
  rintro z8 rfl
  rw [show (64 : Int) + ((a.B : Nat) : Int) = ((64 + a.B : Nat) : Int) by omega, n64 (by omega)]
  rintro z9 rfl
  rw [n32 (by omega)]
  refine H.drN fun E H => ⟨rfl, H.touch⟩
/-! ### bytes -/
/-- the number whose bytes are f a, f (a + 1) .. -/
def hiB (f : Nat → Nat) : Nat → Nat → Nat
  | 0, _ => 0
  | m + 1, a => f a + 256 * hiB f m (a + 1)
theorem hiB_lt {f : Nat → Nat} (hf : ∀ x, f x < 256) : ∀ m a, hiB f m a < 256 ^ m
  | 0, _ => by show 0 < 1; omega
  | m + 1, a => by
    have h1 := hiB_lt hf m (a + 1)
    have h2 := hf a
    show f a + 256 * hiB f m (a + 1) < 256 ^ (m + 1)
    rw [Nat.pow_succ]
    generalize 256 ^ m = p at h1 ⊢
    omega
theorem hiB_congr {f g : Nat → Nat} : ∀ m a, (∀ c, c < m → f (a + c) = g (a + c)) → hiB f m a = hiB g m a
  | 0, _, _ => rfl
  | m + 1, a, h => by
    show f a + 256 * hiB f m (a + 1) = g a + 256 * hiB g m (a + 1)
    have h0 : f a = g a := h 0 (Nat.zero_lt_succ m)
    have h1 : hiB f m (a + 1) = hiB g m (a + 1) := hiB_congr m (a + 1) fun c hc => by
      have := h (c + 1) (by omega)
      rw [show a + 1 + c = a + (c + 1) by omega]
      exact this
    rw [h0, h1]
theorem hiB_byte {f : Nat → Nat} (hf : ∀ x, f x < 256) : ∀ m a c, c < m → hiB f m a / 2 ^ (8 * c) % 256 = f (a + c)
  | 0, _, _, h => absurd h (Nat.not_lt_zero _)
  | m + 1, a, 0, _ => by
    have h2 := hf a
    show (f a + 256 * hiB f m (a + 1)) / 1 % 256 = f a
    omega
  | m + 1, a, c + 1, h => by
    have h2 := hf a
    show (f a + 256 * hiB f m (a + 1)) / 2 ^ (8 * (c + 1)) % 256 = f (a + (c + 1))
    rw [show 8 * (c + 1) = 8 + 8 * c by omega, Nat.pow_add, ← Nat.div_div_eq_div_mul, show (f a + 256 * hiB f m (a + 1)) / 2 ^ 8 = hiB f m (a + 1) by
      show (f a + 256 * hiB f m (a + 1)) / 256 = _; omega, hiB_byte hf m (a + 1) c (by omega), show a + 1 + c = a + (c + 1) by omega]
theorem or_low {x y : Nat} (hy : y < 256) : (256 * x) ||| y = 256 * x + y := by
  have := Nat.two_pow_add_eq_or_of_lt (i := 8) hy x
  rw [← this]
theorem bytes_any {km : Nat} {f : Nat → Nat} {t : TypeId} (hb : Blk W km (natsV .u8 16 f) t) (hf : ∀ x, f x < 256) (a s : Nat) (h : a + s ≤ 16) (hs : s ≤ 4) :
    Calls Tryd.prog 13 #[.slice (some ⟨km, 0, none⟩) 16 16, .int .u32 (64 + a : Nat), .int .i64 s] W fun e w => e = .returned (.int .u32 (hiB f s a : Nat)) ∧ w = W := by
  refine vc13 (some ⟨km, 0, none⟩) 16 16 _ _ ?_
  rintro z rfl
  rw [w64 (e := (s : Int) - 1) (by omega) (by omega)]
  refine ⟨fun k v A => ∃ j : Nat, k = (j : Int) - 1 ∧ j ≤ s ∧ v = ((hiB f (s - j) (a + j) : Nat) : Int) ∧ A = W, fun k _ _ => (k + 1).toNat, ⟨s, rfl, Nat.le_refl _, by rw [Nat.sub_self]; rfl, rfl⟩, fun _ => ?_⟩
  rintro k v A ⟨j, rfl, hj, rfl, rfl⟩
  refine split_of (fun q => ?_) (fun q => ?_)
  · have q := of_decide_eq_true q
    obtain ⟨i, rfl⟩ : ∃ i, j = i + 1 := ⟨j - 1, by omega⟩
    refine ⟨by omega, ?_⟩
    have hlt := hiB_lt hf (s - (i + 1)) (a + (i + 1))
    have hlt3 : hiB f (s - (i + 1)) (a + (i + 1)) < 16777216 := Nat.lt_of_lt_of_le hlt (show 256 ^ (s - (i + 1)) ≤ 256 ^ 3 from Nat.pow_le_pow_right (by decide) (by omega))
    rintro z2 rfl
    rw [show min 8 (IntKind.bits .u32) = 8 from rfl, show ((hiB f (s - (i + 1)) (a + (i + 1)) : Nat) : Int) * 2 ^ 8 = ((256 * hiB f (s - (i + 1)) (a + (i + 1)) : Nat) : Int) by omega, n32 (by omega)]
    rintro z3 rfl
    rw [n64 (by omega)]
    rintro z4 rfl
    rw [w64 (e := ((64 + a : Nat) : Int) - 64) (by omega) (by omega)]
    rintro z5 rfl
    rw [show ((64 + a : Nat) : Int) - 64 + (((i + 1 : Nat) : Int) - 1) = ((a + i : Nat) : Int) by omega, n64 (by omega)]
    refine ⟨⟨by omega, by omega⟩, adr_some ⟨(f (a + i) : Nat), ?_, ?_⟩⟩
    · rw [ix1, Nat.zero_add]; exact hb.cell' (nats_get f (by omega))
    have hfa := hf (a + i)
    rintro z7 rfl
    rw [n32 (x := f (a + i)) (by omega)]
    rintro z8 rfl
    rw [lor32 (by omega) (by omega), or_low (hf _)]
    rintro z9 rfl
    rw [w64 (e := ((i + 1 : Nat) : Int) - 1 - 1) (by omega) (by omega)]
    refine ⟨⟨i, by omega, by omega, ?_, rfl⟩, by show (((i + 1 : Nat) : Int) - 1 - 1 + 1).toNat < (((i + 1 : Nat) : Int) - 1 + 1).toNat; omega⟩
    rw [show s - i = (s - (i + 1)) + 1 by omega]
    show _ = ((f (a + i) + 256 * hiB f (s - (i + 1)) (a + i + 1) : Nat) : Int)
    rw [Nat.add_comm (f (a + i))]; rfl
  · have q := of_decide_eq_false q
    obtain rfl : j = 0 := by omega
    exact ⟨rfl, rfl⟩
/-- one byte of a number is set -/
theorem set_byte {v w i : Nat} (hi : i + 8 ≤ 32) (hv : v < 4294967296) (hw : w < 4294967296) :
    (v &&& (4294967295 - 255 * 2 ^ i)) ||| (w &&& (255 * 2 ^ i)) = 2 ^ (i + 8) * (v / 2 ^ (i + 8)) + (2 ^ i * (w / 2 ^ i % 256) + v % 2 ^ i) := by
  have hm : ∀ j, (255 * 2 ^ i).testBit j = (decide (i ≤ j) && decide (j - i < 8)) := fun j => by
    rw [Nat.testBit_mul_two_pow, show (255 : Nat) = 2 ^ 8 - 1 from rfl, Nat.testBit_two_pow_sub_one]
  have hlt : 255 * 2 ^ i < 2 ^ 32 := by
    have : 2 ^ i ≤ 2 ^ 24 := Nat.pow_le_pow_right (by decide) (by omega)
    omega
  have hc : ∀ j, (4294967295 - 255 * 2 ^ i).testBit j = (decide (j < 32) && !(decide (i ≤ j) && decide (j - i < 8))) := fun j => by
    rw [← hm, show 4294967295 - 255 * 2 ^ i = 2 ^ 32 - (255 * 2 ^ i + 1) by omega, Nat.testBit_two_pow_sub_succ hlt]
  have hlo : v % 2 ^ i < 2 ^ i := Nat.mod_lt _ (Nat.two_pow_pos i)
  have hin : 2 ^ i * (w / 2 ^ i % 256) + v % 2 ^ i < 2 ^ (i + 8) := by
    have hy : w / 2 ^ i % 256 < 256 := Nat.mod_lt _ (by decide)
    rw [Nat.pow_add]
    have : 2 ^ i * (w / 2 ^ i % 256) + 2 ^ i ≤ 2 ^ i * 256 := by
      rw [← Nat.mul_succ]; exact Nat.mul_le_mul_left _ hy
    omega
  apply Nat.eq_of_testBit_eq
  intro j
  rw [Nat.testBit_or, Nat.testBit_and, Nat.testBit_and, hm, hc, Nat.testBit_two_pow_mul_add _ hin, Nat.testBit_two_pow_mul_add _ hlo]
  have hv32 : 32 ≤ j → v.testBit j = false := fun h => Nat.testBit_lt_two_pow (Nat.lt_of_lt_of_le hv (show 2 ^ 32 ≤ 2 ^ j from Nat.pow_le_pow_right (by decide) h))
  by_cases h1 : j < i
  · rw [if_pos (by omega), if_pos h1, Nat.testBit_mod_two_pow, decide_eq_true h1, decide_eq_false (by omega : ¬ i ≤ j), decide_eq_true (by omega : j < 32)]
    simp
  · by_cases h2 : j < i + 8
    · rw [if_pos h2, if_neg h1, show (256 : Nat) = 2 ^ 8 from rfl, Nat.testBit_mod_two_pow, Nat.testBit_div_two_pow, decide_eq_true (by omega : j - i < 8), decide_eq_true (by omega : i ≤ j), show j - i + i = j by omega]
      simp
    · rw [if_neg h2, Nat.testBit_div_two_pow, show j - (i + 8) + (i + 8) = j by omega, decide_eq_false (by omega : ¬ j - i < 8)]
      by_cases h3 : j < 32
      · rw [decide_eq_true h3]; simp
      · rw [hv32 (by omega)]; simp
end Go.Proofs.YtngfaiahlblkkaaDoor
