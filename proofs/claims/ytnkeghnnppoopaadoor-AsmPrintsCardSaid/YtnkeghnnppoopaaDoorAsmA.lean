/- Printing, part A: strings of bytes, numbers in decimal, registers. No condition. -/
import Derived.Test.YtnkeghnnppoopaaDoorAsmVc
import Derived.Test.YtnkeghnnppoopaaDoorSep
import Derived.Test.YtnkeghnnppoopaaDoorBits
import Derived.Test.YtnkeghnnppoopaaDoorShelf
import Derived.Lib.ItoaLen
import Derived.Lib.AppendIntMem
namespace Go.Proofs.YtnkeghnnppoopaaDoor
open Go.RowKit Go.XHeap Go.Sx Go.Sep
set_option linter.unusedVariables false
set_option maxRecDepth 100000
/-- the blocks that stood before are as they were -/
structure Old (W w : World) : Prop where
  os : w.os = W.os
  output : w.output = W.output
  size : W.heap.size ≤ w.heap.size
  block : ∀ k, k < W.heap.size → w.heap[k]? = W.heap[k]?
theorem Old.refl (W : World) : Old W W := ⟨rfl, rfl, Nat.le_refl _, fun _ _ => rfl⟩
theorem Old.trans {a b c : World} (h : Old a b) (h2 : Old b c) : Old a c := ⟨h2.os.trans h.os, h2.output.trans h.output, Nat.le_trans h.size h2.size, fun k hk => (h2.block k (Nat.lt_of_lt_of_le hk h.size)).trans (h.block k hk)⟩
theorem Old.cell {W w : World} (h : Old W w) {p : Addr} {v : Value} (hc : W.cell? p = some v) : w.cell? p = some v := by
  have := World.block_lt_of_cell? _ _ hc
  unfold World.cell? at hc ⊢
  rw [h.block _ this]
  exact hc
theorem Old.frame {W w : World} (h : Old W w) (may : MemPlace → Prop) : W.keptBut w may := by
  refine ⟨h.os, h.output, fun i hi => ?_⟩
  rw [h.block i hi]
  cases hb : W.heap[i]? with
  | none => rfl
  | some o =>
    cases o with
    | cells c t fr => exact ⟨rfl, rfl, rfl, fun _ _ => rfl⟩
    | map es cl => exact .inr ⟨rfl, rfl⟩
    | _ => rfl
theorem Old.alloc {W w : World} (h : Old W w) (o : Obj) : Old W (w.alloc o) := ⟨h.os, h.output, by simpa using Nat.le_succ_of_le h.size, fun k hk => (Below.heap_alloc _ _ _ (Nat.lt_of_lt_of_le hk h.size)).trans (h.block k hk)⟩
theorem Old.drewN {W w : World} (h : Old W w) (n : Nat) : Old W (w.drewN n) := ⟨h.os, h.output, h.size, h.block⟩
theorem Old.drew {W w : World} (h : Old W w) : Old W w.drew := ⟨h.os, h.output, h.size, h.block⟩
theorem Old.below {B : Nat} {W w : World} (h : Below W.heap.size W w) : Old W w := ⟨h.os, h.output, h.size, h.block⟩
theorem Old.grown {W w : World} (h : Grown W w) : Old W w := by
  obtain ⟨⟨h1, h2, h3⟩, -, h4⟩ := h
  refine ⟨h1, h2, h4, fun k hk => ?_⟩
  have := h3 k hk
  cases ha : W.heap[k]? with
  | none => rw [Array.getElem?_eq_none_iff] at ha; omega
  | some o =>
    obtain ⟨o', hb⟩ : ∃ o', w.heap[k]? = some o' := ⟨_, Array.getElem?_eq_getElem (by omega)⟩
    rw [ha, hb] at this
    rw [hb]
    congr 1
    cases o with
    | cells c t fr =>
      cases o' with
      | cells c' t' fr' =>
        obtain ⟨rfl, rfl, -, h5⟩ := this
        congr 1
        exact Array.ext_getElem? (fun j => h5 j (fun e => e))
      | _ => simp at this
    | map es cl =>
      cases o' with
      | map es' cl' =>
        rcases this with e | ⟨rfl, rfl⟩
        · exact e.elim
        · rfl
      | _ => simp at this
    | _ => (cases o' <;> exact Option.some.inj this)
/-! ### strings -/
def bs (l : List UInt8) : ByteArray := ⟨l.toArray⟩
theorem bs_app (a b : List UInt8) : bs a ++ bs b = bs (a ++ b) := by
  apply ByteArray.ext
  simp [bs, ByteArray.data_append]
theorem bs_size (a : List UInt8) : (bs a).size = a.length := by simp [bs, ByteArray.size]
/-! ### decimal -/
theorem dd_big {n : Nat} (h : ¬ n < 10) : Lib.decDigits n = Lib.decDigits (n / 10) ++ [UInt8.ofNat (48 + n % 10)] := by rw [Lib.decDigits, dif_neg h]
theorem dd_small {n : Nat} (h : n < 10) : Lib.decDigits n = [UInt8.ofNat (48 + n)] := by rw [Lib.decDigits, dif_pos h]
theorem dd_len (n : Nat) (h : n ≤ 9223372036854775807) : (Lib.decDigits n).length ≤ 21 := by
  have := Lib.itoa_length_le (n : Int) (by omega) (by omega)
  rwa [Lib.itoa_nonneg] at this
theorem one_digit : ∀ k : Fin 10, ByteArray.extract (ByteArray.mk #[48, 49, 50, 51, 52, 53, 54, 55, 56, 57]) k.val (k.val + 1) = bs [UInt8.ofNat (48 + k.val)] := by decide +kernel
theorem dec_any (n : Nat) : n ≤ 9223372036854775807 → ∀ W : World, Calls Tryd.prog 14 #[.int .i64 (n : Nat)] W fun e w => e = .returned (.string (bs (Lib.decDigits n))) ∧ w = W := by
  induction n using Nat.strongRecOn with
  | ind n ih =>
    intro hn W
    refine vc14 n (split_of (fun q => absurd (of_decide_eq_true q) (by omega)) (fun _ => split_of (fun q => ?_) (fun q => ?_)))
    · have q := of_decide_eq_true q
      rintro z rfl
      rw [w64 (by omega) (by omega)]
      refine ⟨by omega, by omega, ⟨by omega, by show ((n : Int) + 1).toNat ≤ 10; omega⟩, ?_, rfl⟩
      rw [Int.toNat_natCast, show ((n : Int) + 1).toNat = n + 1 by omega, one_digit ⟨n, by omega⟩, dd_small (by omega)]
    · have q := of_decide_eq_false q
      refine ⟨by decide, ?_⟩
      rintro z2 rfl
      rw [show Int.tdiv (n : Int) 10 = ((n / 10 : Nat) : Int) from rfl, Bits.n64 (by omega)]
      refine (ih (n / 10) (by omega) (by omega) W).mono ?_
      rintro e w ⟨rfl, rfl⟩
      refine ⟨_, rfl, by decide, ?_⟩
      rintro z3 rfl
      refine ⟨by decide, ?_⟩
      rintro z4 rfl z5 rfl
      rw [show Int.tmod (n : Int) 10 = ((n % 10 : Nat) : Int) from rfl, w64 (by omega) (by omega), Int.toNat_natCast, show (((n % 10 : Nat) : Int) + 1).toNat = n % 10 + 1 by omega, one_digit ⟨n % 10, by omega⟩]
      have hl := dd_len (n / 10) (by omega)
      refine ⟨by omega, by omega, ⟨by omega, by show n % 10 + 1 ≤ 10; omega⟩, by rw [bs_size, bs_size]; simp only [List.length_singleton]; omega, ?_⟩
      rintro s4 rfl
      refine ⟨?_, rfl⟩
      rw [bs_app, dd_big (n := n) (by omega)]
theorem rdec_any (n : Int) (h0 : -9223372036854775807 ≤ n) (h1 : n ≤ 9223372036854775807) (W : World) : Calls Tryd.prog 14 #[.int .i64 n] W fun e w => e = .returned (.string (bs (Lib.itoa n))) ∧ w = W := by
  by_cases hn : n < 0
  · obtain ⟨u, rfl⟩ : ∃ u : Nat, n = -(u : Int) := ⟨n.natAbs, by omega⟩
    refine vc14 _ (split_of (fun _ => ?_) (fun q => absurd hn (of_decide_eq_false q)))
    rw [show 0 - -(u : Int) = (u : Int) by omega, Bits.n64 (by omega)]
    refine (dec_any u (by omega) W).mono ?_
    rintro e w ⟨rfl, rfl⟩
    have hl := dd_len u (by omega)
    refine ⟨_, rfl, by rw [bs_size]; show ((1 + _ : Nat) : Int) ≤ _; omega, ?_⟩
    rintro s rfl
    refine ⟨?_, rfl⟩
    rw [Lib.itoa_neg u (by omega)]
    show Ending.returned (.string (bs [45] ++ bs _)) = _
    rw [bs_app]; rfl
  · obtain ⟨u, rfl⟩ : ∃ u : Nat, n = (u : Int) := ⟨n.toNat, by omega⟩
    rw [Lib.itoa_nonneg]
    exact dec_any u (by omega) W
theorem itoa_len (n : Int) (h0 : -9223372036854775807 ≤ n) (h1 : n ≤ 9223372036854775807) : (Lib.itoa n).length ≤ 21 := Lib.itoa_length_le n (by omega) (by omega)
def regS (n : Int) : List UInt8 := 120 :: Lib.itoa n
theorem reg_len (n : Int) (h0 : 0 ≤ n) (h1 : n < 32) : (regS n).length ≤ 22 := by
  have := itoa_len n (by omega) (by omega)
  unfold regS; simp; omega
theorem rreg_any (n : Int) (h0 : 0 ≤ n) (h1 : n < 32) (W : World) : Calls Tryd.prog 13 #[.int .i64 n] W fun e w => e = .returned (.string (bs (regS n))) ∧ w = W := by
  refine vc13 n ((rdec_any n (by omega) (by omega) W).mono ?_)
  rintro e w ⟨rfl, rfl⟩
  have hl := itoa_len n (by omega) (by omega)
  refine ⟨_, rfl, by rw [bs_size]; show ((1 + _ : Nat) : Int) ≤ _; omega, ?_⟩
  rintro s rfl
  refine ⟨?_, rfl⟩
  show Ending.returned (.string (bs [120] ++ bs _)) = _
  rw [bs_app]; rfl
/-! ### the program's -/
theorem itoa_small (n : Int) (h0 : 0 ≤ n) (h1 : n < 100) (W : World) : Calls Tryd.prog 8 #[.int .i64 n] W fun e w => e = .returned (.string (bs (Lib.itoa n))) ∧ w = W := by
  obtain ⟨u, rfl⟩ : ∃ u : Nat, n = (u : Int) := ⟨n.toNat, by omega⟩
  rw [Lib.itoa_nonneg]
  exact Tryd.strconv_Itoa_small u (by omega) W
theorem itoa_any (n : Int) (h0 : -9223372036854775808 ≤ n) (h1 : n ≤ 9223372036854775807) (W : World) (ht : Lib.TabIs Tryd.prog W "internal/strconv.uint64pow10" .u64 Lib.pow10Tab) : Calls Tryd.prog 8 #[.int .i64 n] W fun e w => e = .returned (.string (bs (Lib.itoa n))) ∧ Below W.heap.size W w := by
  refine (Tryd.strconv_Itoa n h0 h1 W ht).mono ?_
  rintro e w ⟨rfl, k, os, rfl⟩
  exact ⟨rfl, Lib.below_grow _ _ (Nat.le_refl _) _ _⟩
theorem preg_any (n : Int) (h0 : 0 ≤ n) (h1 : n < 32) (W : World) : Calls Tryd.prog 7 #[.int .i64 n] W fun e w => e = .returned (.string (bs (regS n))) ∧ w = W := by
  refine vc7 n ((itoa_small n (by omega) (by omega) W).mono ?_)
  rintro e w ⟨rfl, rfl⟩
  have hl := itoa_len n (by omega) (by omega)
  refine ⟨_, rfl, by rw [bs_size]; show ((1 + _ : Nat) : Int) ≤ _; omega, ?_⟩
  rintro s rfl
  refine ⟨?_, rfl⟩
  show Ending.returned (.string (bs [120] ++ bs _)) = _
  rw [bs_app]; rfl
end Go.Proofs.YtnkeghnnppoopaaDoor
