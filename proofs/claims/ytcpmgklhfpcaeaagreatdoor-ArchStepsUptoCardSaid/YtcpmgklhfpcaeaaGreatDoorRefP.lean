/- The document's hart by the program's state: plain equalities. No program in sight; no condition. -/
import Derived.Test.YtcpmgklhfpcaeaaGreatDoorArchJ
import Derived.Test.YtcpmgklhfpcaeaaGreatDoorIsaM
namespace Go.Proofs.YtcpmgklhfpcaeaaGreatDoor
open Go.RowKit Go.XHeap Go.Sx Go.Sep
set_option linter.unusedVariables false
set_option maxRecDepth 100000

/-! ### bits -/
theorem and_high (k x : Nat) (hk : k ≤ 32) (hx : x < 2 ^ 32) : x &&& ((2 ^ (32 - k) - 1) <<< k) = x / 2 ^ k * 2 ^ k := by
  have e : x / 2 ^ k * 2 ^ k = (x >>> k) <<< k := by rw [Nat.shiftLeft_eq, Nat.shiftRight_eq_div_pow]
  rw [e]
  apply Nat.eq_of_testBit_eq
  intro i
  rw [Nat.testBit_and, Nat.testBit_shiftLeft, Nat.testBit_shiftLeft, Nat.testBit_shiftRight, Nat.testBit_two_pow_sub_one]
  by_cases h : i ≥ k
  · rw [decide_eq_true h, show k + (i - k) = i by omega]
    by_cases h2 : i - k < 32 - k
    · rw [decide_eq_true h2]; simp
    · rw [decide_eq_false h2, Nat.testBit_lt_two_pow (Nat.lt_of_lt_of_le hx (Nat.pow_le_pow_right (by decide) (by omega)))]; simp
  · rw [decide_eq_false h]; simp
theorem and_n {x n : Nat} (hx : x < 4294967296) (hn : n < 4294967296) : and32 x n = ((x &&& n : Nat) : Int) := by
  unfold and32
  exact Bits.land32 hx hn
theorem and_fffc {v : Int} (h : U32 v) : and32 v 4294967292 = v - v % 4 := by
  obtain ⟨h0, h1⟩ := h
  obtain ⟨n, rfl⟩ : ∃ n : Nat, v = n := ⟨v.toNat, by omega⟩
  rw [show (4294967292 : Int) = ((4294967292 : Nat) : Int) from rfl, and_n (by omega) (by decide), show (4294967292 : Nat) = (2 ^ (32 - 2) - 1) <<< 2 by decide, and_high 2 n (by decide) (by omega)]
  omega
theorem and_ffff {v : Int} (h : U32 v) : and32 v 4294967295 = v := by
  obtain ⟨h0, h1⟩ := h
  obtain ⟨n, rfl⟩ : ∃ n : Nat, v = n := ⟨v.toNat, by omega⟩
  rw [show (4294967295 : Int) = ((4294967295 : Nat) : Int) from rfl, and_n (by omega) (by decide), show (4294967295 : Nat) = 2 ^ 32 - 1 by decide, Nat.and_two_pow_sub_one_eq_mod]
  omega
theorem and_mod {v : Int} (h : U32 v) (b : Nat) (hb : b ≤ 31) : and32 v ((2 ^ b - 1 : Nat) : Int) = v % (2 ^ b : Nat) := by
  obtain ⟨h0, h1⟩ := h
  obtain ⟨n, rfl⟩ : ∃ n : Nat, v = n := ⟨v.toNat, by omega⟩
  have : 2 ^ b ≤ 2 ^ 31 := Nat.pow_le_pow_right (by decide) hb
  rw [and_n (by omega) (by omega), Nat.and_two_pow_sub_one_eq_mod]
  omega
theorem and_3 {v : Int} (h : U32 v) : and32 v 3 = v % 4 := and_mod h 2 (by decide)
theorem andn_1 {v : Int} (h : U32 v) : andn32 v 1 = v / 2 * 2 := by
  obtain ⟨h0, h1⟩ := h
  obtain ⟨n, rfl⟩ : ∃ n : Nat, v = n := ⟨v.toNat, by omega⟩
  unfold andn32
  have e := Bits.andNot32 (x := n) (y := 1) (by omega) (by decide)
  rw [show (1 : Int) = ((1 : Nat) : Int) from rfl, e]
  have e2 : n &&& (4294967295 - 1) = n / 2 ^ 1 * 2 ^ 1 := by
    rw [show (4294967295 - 1 : Nat) = (2 ^ (32 - 1) - 1) <<< 1 by decide]
    exact and_high 1 n (by decide) (by omega)
  rw [e2]
  omega
def isSt (x : Int) : Prop := x = 0 ∨ x = 8 ∨ x = 128 ∨ x = 136
theorem st_all : ((List.range 137).all fun y => (y &&& 136 != y) || (y == 0 || (y == 8 || (y == 128 || y == 136)))) = true := by decide
theorem and_136 {v : Int} (h : U32 v) : isSt (and32 v 136) := by
  obtain ⟨h0, h1⟩ := h
  obtain ⟨n, rfl⟩ : ∃ n : Nat, v = n := ⟨v.toNat, by omega⟩
  rw [show (136 : Int) = ((136 : Nat) : Int) from rfl, and_n (by omega) (by decide)]
  have hle : n &&& 136 ≤ 136 := Nat.and_le_right
  have hk := List.all_eq_true.1 st_all (n &&& 136) (List.mem_range.2 (by omega))
  have hs : (n &&& 136) &&& 136 = n &&& 136 := by rw [Nat.and_assoc, Nat.and_self]
  rw [hs] at hk
  simp only [bne_self_eq_false, Bool.false_or, Bool.or_eq_true, beq_iff_eq] at hk
  unfold isSt
  omega
theorem or32_lt (a b : Int) : U32 (or32 a b) := or32_u a b
/-! ### what stays of a hart besides -/
structure HS.Ok2 (S : HS) : Prop where
  pc4 : S.pc % 4 = 0
  v4 : S.R.at 773 % 4 = 0
  e4 : S.R.at 833 % 4 = 0
  st : isSt (S.R.at 768)
structure RS.Ok2 (R : RS) : Prop where
  v4 : R.at 773 % 4 = 0
  e4 : R.at 833 % 4 = 0
  st : isSt (R.at 768)
theorem RS.at_set (R : RS) (n v k : Int) : (R.set n v).at k = if k = n then and32 v (maskF n) else R.at k := by
  unfold RS.set RS.at
  simp only
  by_cases h : k = n
  · rw [if_pos h, if_pos h]; rfl
  · rw [if_neg h, if_neg h]
theorem RS.Ok2.set {R : RS} (h : R.Ok2) {n v : Int} (hv : U32 v) : (R.set n v).Ok2 := by
  refine ⟨?_, ?_, ?_⟩
  · rw [RS.at_set]
    split
    · rename_i e
      rw [← e, show maskF 773 = 4294967292 from rfl, and_fffc hv]; omega
    · exact h.v4
  · rw [RS.at_set]
    split
    · rename_i e
      rw [← e, show maskF 833 = 4294967292 from rfl, and_fffc hv]; omega
    · exact h.e4
  · rw [RS.at_set]
    split
    · rename_i e
      rw [← e, show maskF 768 = 136 from rfl]; exact and_136 hv
    · exact h.st
theorem RS.Ok2.trapped {R : RS} (h : R.Ok2) {pc cause tval : Int} (hp : U32 pc) (ht : U32 tval) : (R.trapped pc cause tval).Ok2 := (((h.set hp).set (wr_u _)).set ht).set (wr_u _)
theorem RS.Ok2.back {R : RS} (h : R.Ok2) : R.back.Ok2 := h.set (or32_u _ _)
theorem RS.newv_u {R : RS} (h : R.Ok) {op imm a : Int} (ha : U32 a) : U32 (R.newv op imm a) := by
  unfold RS.newv
  split
  · exact or32_u _ _
  · split
    · exact andn32_u _ _
    · exact ha
theorem RS.Ok2.access {R : RS} (h : R.Ok2) (ho : R.Ok) {op rs1 imm a : Int} (ha : U32 a) : (R.access op rs1 imm a).2.2.Ok2 := by
  unfold RS.access
  split
  · exact h
  · split
    · exact h
    · refine h.set (RS.newv_u ho ?_)
      split
      · exact wr_u _
      · exact ha
theorem HS.Ok2.R {S : HS} (h : S.Ok2) : S.R.Ok2 := ⟨h.v4, h.e4, h.st⟩
theorem HS.Ok2.trap {S : HS} (h : S.Ok2) (ho : S.Ok) {w cause tval : Int} (ht : U32 tval) : (S.trap w cause tval).2.Ok2 := by
  have key : (S.R.trap S.pc cause tval).1 % 4 = 0 ∧ (S.R.trap S.pc cause tval).2.2.Ok2 := by
    unfold RS.trap
    split
    · exact ⟨h.pc4, h.R⟩
    · exact ⟨h.v4, h.R.trapped ho.pc ht⟩
  exact ⟨key.1, key.2.v4, key.2.e4, key.2.st⟩
theorem p4_4 {S : HS} (h : S.Ok2) (ho : S.Ok) : S.p4 % 4 = 0 := by
  have := h.pc4
  obtain ⟨a, b⟩ := ho.pc
  unfold HS.p4 wr
  rw [w32m]; omega
theorem HS.Ok2.fin {S : HS} (h : S.Ok2) (ho : S.Ok) {v next : Int} {R : RS} (hn : U32 next) (hR : R.Ok2) : (S.fin v next R).2.Ok2 := by
  unfold HS.fin
  split
  · have key : (({ S with R := R } : HS).R.trap S.pc 0 next).1 % 4 = 0 ∧ (({ S with R := R } : HS).R.trap S.pc 0 next).2.2.Ok2 := by
      unfold RS.trap
      split
      · exact ⟨h.pc4, hR⟩
      · exact ⟨hR.v4, hR.trapped ho.pc hn⟩
    exact ⟨key.1, key.2.v4, key.2.e4, key.2.st⟩
  · rename_i hne
    have h3 : and32 next 3 = 0 := Classical.not_not.1 hne
    rw [and_3 hn] at h3
    exact ⟨h3, hR.v4, hR.e4, hR.st⟩
theorem HS.Ok2.mid {S : HS} (h : S.Ok2) (ho : S.Ok) {loaded : Int} {held : Bool} {v next : Int} {R : RS} (hm : S.mid loaded held = .go v next R) : R.Ok2 := by
  unfold HS.mid at hm
  simp only at hm
  split at hm
  · cases hm; exact h.R
  split at hm
  · cases hm; exact h.R
  split at hm
  · cases hm; exact h.R
  split at hm
  · split at hm
    · cases hm
    split at hm
    · cases hm
    split at hm
    · cases hm; exact h.R.back
    split at hm
    · cases hm; exact h.R
    split at hm
    · cases hm; exact h.R.access ho.R (ho.reg _)
    · cases hm
  split at hm
  · cases hm
  · cases hm; exact h.R
theorem mid_trap_u {S : HS} (ho : S.Ok) {loaded : Int} {held : Bool} {c t : Int} (hm : S.mid loaded held = .trap c t) : U32 t := by
  unfold HS.mid at hm
  simp only at hm
  split at hm
  · cases hm
  split at hm
  · cases hm
  split at hm
  · cases hm
  split at hm
  · split at hm
    · cases hm; exact u32_lit (by decide) (by decide)
    split at hm
    · cases hm; exact ho.pc
    split at hm
    · cases hm
    split at hm
    · cases hm
    split at hm
    · cases hm
    · cases hm; exact ho.word
  split at hm
  · cases hm; exact whereF_u (ho.reg _)
  · cases hm
theorem HS.Ok2.done {S : HS} (h : S.Ok2) (ho : S.Ok) {loaded : Int} {held : Bool} (hl : U32 loaded) : (S.done loaded held).2.Ok2 := by
  unfold HS.done
  split
  · exact h
  split
  · exact h.trap ho ho.pc
  split
  · exact h.trap ho ho.word
  split
  · rename_i hm; exact h.trap ho (mid_trap_u ho hm)
  · rename_i hm; exact h.fin ho (ho.mid hl hm).2.1 (h.mid ho hm)
theorem HS.Ok2.intr {S : HS} (h : S.Ok2) (ho : S.Ok) : S.intr.2.Ok2 := by
  unfold HS.intr
  split
  · exact h.trap ho (w := 0) (cause := 2147483659) (tval := 0) (u32_lit (by decide) (by decide))
  · exact h
theorem new_ok2 (code : List Int) (data number : Int) : (HS.new code data number).Ok2 := ⟨rfl, rfl, rfl, .inl rfl⟩
/-! ### how many have been counted -/
theorem ret_trap {S : HS} {w cause tval : Int} : (S.trap w cause tval).2.R.ret = S.R.ret := by
  show (S.R.trap S.pc cause tval).2.2.ret = S.R.ret
  unfold RS.trap
  split <;> rfl
theorem ret_mid {S : HS} {loaded : Int} {held : Bool} {v next : Int} {R : RS} (hm : S.mid loaded held = .go v next R) : R.ret = S.R.ret := by
  unfold HS.mid at hm
  simp only at hm
  split at hm
  · cases hm; rfl
  split at hm
  · cases hm; rfl
  split at hm
  · cases hm; rfl
  split at hm
  · split at hm
    · cases hm
    split at hm
    · cases hm
    split at hm
    · cases hm; rfl
    split at hm
    · cases hm; rfl
    split at hm
    · cases hm
      unfold RS.access
      split
      · rfl
      · split <;> rfl
    · cases hm
  split at hm
  · cases hm
  · cases hm; rfl
theorem ret_fin {S : HS} {v next : Int} {R : RS} : (S.fin v next R).2.R.ret = R.ret ∨ (S.fin v next R).2.R.ret = wr (R.ret + 1) := by
  unfold HS.fin
  split
  · exact .inl (ret_trap (S := { S with R := R }))
  · exact .inr rfl
theorem ret_done {S : HS} {loaded : Int} {held : Bool} : (S.done loaded held).2.R.ret = S.R.ret ∨ (S.done loaded held).2.R.ret = wr (S.R.ret + 1) := by
  unfold HS.done
  split
  · exact .inl rfl
  split
  · exact .inl ret_trap
  split
  · exact .inl ret_trap
  split
  · exact .inl ret_trap
  · rename_i hm
    rw [← ret_mid hm]
    exact ret_fin
theorem ret_intr {S : HS} : S.intr.2.R.ret = S.R.ret := by
  unfold HS.intr
  split
  · exact ret_trap (w := 0)
  · rfl
/-! ### the document's tables -/
theorem tab1 : ((List.range 67).all fun i => decide (classR (i + 1 : Nat) = classP (i + 1 : Nat)) && (decide (alu.classR (i + 1 : Nat) = classP (i + 1 : Nat)) && decide (writesP (i + 1 : Nat) = !(decide (classP (i + 1 : Nat) = 2) || (decide (classP (i + 1 : Nat) = 5) || (decide (57 ≤ i + 1) && decide (i + 1 ≤ 61))))))) = true := by kernel_rfl
theorem tab2 : ((List.range 67).all fun i => (decide (classP (i + 1 : Nat) ≠ 0) && decide (classP (i + 1 : Nat) ≠ 1)) || (if rF (i + 1 : Nat) = 85 then !(readsP (i + 1 : Nat)).1 else if rF (i + 1 : Nat) = 73 ∨ rF (i + 1 : Nat) = 72 then (readsP (i + 1 : Nat)).1 && !(readsP (i + 1 : Nat)).2 else (readsP (i + 1 : Nat)).1 && (readsP (i + 1 : Nat)).2)) = true := by kernel_rfl
theorem tab3 : ((List.range 67).all fun i => decide ((classP (i + 1 : Nat) = 4 ∨ classP (i + 1 : Nat) = 5 ∨ classP (i + 1 : Nat) = 6) ↔ alu.sizeF (i + 1 : Nat) ≠ 0) && decide (classP (i + 1 : Nat) = 7 ↔ 57 ≤ i + 1)) = true := by kernel_rfl
theorem tab4 : ((List.range 67).all fun i => decide (i + 1 < 62) || (decide (rF (i + 1 : Nat) = 68 ↔ 65 ≤ i + 1) && (decide (rA (i + 1 : Nat) % 4 = 1 ↔ (i + 1 = 62 ∨ i + 1 = 65)) && (decide (rA (i + 1 : Nat) % 4 = 2 ↔ (i + 1 = 63 ∨ i + 1 = 66)) && (decide (rA (i + 1 : Nat) % 4 = 3 ↔ (i + 1 = 64 ∨ i + 1 = 67)) && decide (0 ≤ rA (i + 1 : Nat) ∧ rA (i + 1 : Nat) < 100)))))) = true := by kernel_rfl
theorem rng_all {f : Nat → Bool} (h : ((List.range 67).all f) = true) {op : Int} (h1 : 1 ≤ op) (h2 : op ≤ 67) : f (op.toNat - 1) = true := List.all_eq_true.1 h _ (List.mem_range.2 (by omega))
end Go.Proofs.YtcpmgklhfpcaeaaGreatDoor
