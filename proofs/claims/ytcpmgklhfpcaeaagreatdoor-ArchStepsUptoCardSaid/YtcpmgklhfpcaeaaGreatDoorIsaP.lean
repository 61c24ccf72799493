/- Part P: the plain law of decoding: at most one operation matches a word. -/
import Derived.Test.YtcpmgklhfpcaeaaGreatDoorIsaF
namespace Go.Proofs.YtcpmgklhfpcaeaaGreatDoor
open Go.RowKit
set_option linter.unusedVariables false
set_option maxRecDepth 100000

/-- does the word match the operation's shape? -/
def Mt (op x : Int) : Prop := bits .and .u32 x (shP op).2.1 = (shP op).2.2
instance (op x : Int) : Decidable (Mt op x) := by unfold Mt; infer_instance
def mN (i : Nat) : Nat := (shP (i + 1 : Nat)).2.1.toNat
def vN (i : Nat) : Nat := (shP (i + 1 : Nat)).2.2.toNat
theorem shapes_ok : ((List.range 67).all fun i => decide (0 ≤ (shP (i + 1 : Nat)).2.1) && decide ((shP (i + 1 : Nat)).2.1 < 4294967296) && decide (0 ≤ (shP (i + 1 : Nat)).2.2) && decide ((shP (i + 1 : Nat)).2.2 < 4294967296)) = true := by kernel_rfl
theorem apart_ok : ((List.range 67).all fun i => (List.range 67).all fun j => i == j || (vN i &&& mN j) != (vN j &&& mN i)) = true := by kernel_rfl
theorem codes_ok : ((List.range 67).all fun i => mN i &&& 127 == 127 && (codeL.getD (vN i &&& 127) []).contains ((i : Int) + 1)) = true := by kernel_rfl
theorem lists_ok : (codeL.all fun l => l.all fun op => decide (1 ≤ op) && decide (op ≤ 67)) = true := by kernel_rfl
theorem mt_nat {op : Int} (h1 : 1 ≤ op) (h2 : op ≤ 67) {x : Int} (hx0 : 0 ≤ x) (hx1 : x < 4294967296) : Mt op x ↔ x.toNat &&& mN (op.toNat - 1) = vN (op.toNat - 1) := by
  have h := List.all_eq_true.1 shapes_ok (op.toNat - 1) (List.mem_range.2 (by omega))
  simp only [Bool.and_eq_true, decide_eq_true_eq] at h
  obtain ⟨⟨⟨m0, m1⟩, v0⟩, v1⟩ := h
  have e : ((op.toNat - 1 + 1 : Nat) : Int) = op := by omega
  unfold Mt mN vN
  rw [e] at m0 m1 v0 v1 ⊢
  rw [u32_and _ _ hx0 hx1 m0 m1]
  constructor
  · intro h; omega
  · intro h; omega
theorem mt_one {i j x : Int} (hi1 : 1 ≤ i) (hi2 : i ≤ 67) (hj1 : 1 ≤ j) (hj2 : j ≤ 67) (hx0 : 0 ≤ x) (hx1 : x < 4294967296) (hi : Mt i x) (hj : Mt j x) : i = j := by
  rw [mt_nat hi1 hi2 hx0 hx1] at hi
  rw [mt_nat hj1 hj2 hx0 hx1] at hj
  have h := List.all_eq_true.1 (List.all_eq_true.1 apart_ok (i.toNat - 1) (List.mem_range.2 (by omega))) (j.toNat - 1) (List.mem_range.2 (by omega))
  simp only [Bool.or_eq_true, beq_iff_eq, bne_iff_ne] at h
  rcases h with h | h
  · omega
  · exact absurd (by rw [← hi, ← hj, Nat.and_assoc, Nat.and_assoc, Nat.and_comm (mN (i.toNat - 1))]) h
theorem mt_code {op x : Int} (h1 : 1 ≤ op) (h2 : op ≤ 67) (hx0 : 0 ≤ x) (hx1 : x < 4294967296) (h : Mt op x) : op ∈ codeL.getD (x.toNat % 128) [] := by
  rw [mt_nat h1 h2 hx0 hx1] at h
  have hc := List.all_eq_true.1 codes_ok (op.toNat - 1) (List.mem_range.2 (by omega))
  simp only [Bool.and_eq_true, beq_iff_eq] at hc
  obtain ⟨c1, c2⟩ := hc
  have e : vN (op.toNat - 1) &&& 127 = x.toNat % 128 := by
    rw [← h, Nat.and_assoc, c1, nat_mask7]
  rw [e] at c2
  have c3 : ((op.toNat - 1 : Nat) : Int) + 1 = op := by omega
  rw [c3] at c2
  simpa using c2
theorem code_ops {c : Nat} {op : Int} (h : op ∈ codeL.getD c []) : 1 ≤ op ∧ op ≤ 67 := by
  by_cases hc : c < codeL.length
  · have hm : codeL.getD c [] ∈ codeL := by
      rw [List.getD_eq_getElem?_getD, List.getElem?_eq_getElem hc]; exact List.getElem_mem _
    have := List.all_eq_true.1 (List.all_eq_true.1 lists_ok _ hm) op h
    simpa using this
  · rw [List.getD_eq_getElem?_getD, List.getElem?_eq_none (by omega)] at h
    simp at h
theorem code_len : codeL.length = 128 := by kernel_rfl
theorem top31 (x : Int) (hx0 : 0 ≤ x) (hx1 : x < 4294967296) : (sgn x / 2147483648 = 0 ∧ partF x 31 1 = 0) ∨ (sgn x / 2147483648 = -1 ∧ partF x 31 1 = 1) := by
  unfold sgn partF
  simp only [Int.reducePow]
  by_cases h : x < 2147483648
  · rw [if_pos h]; left; omega
  · rw [if_neg h]; right; omega
/-- the immediate of each form is the document's -/
theorem jump_eq (x : Int) (hx0 : 0 ≤ x) (hx1 : x < 4294967296) : jumpImm x = signF (partF x 21 10 * 2 + partF x 20 1 * 2048 + partF x 12 8 * 4096 + partF x 31 1 * 1048576) 21 := by
  have p1 := part_bd x 12 8 (by decide)
  have p2 := part_bd x 20 1 (by decide)
  have p3 := part_bd x 21 10 (by decide)
  have t := top31 x hx0 hx1
  unfold jumpImm signF
  simp only [Int.reducePow, Nat.reduceSub] at p1 p2 p3 ⊢
  generalize partF x 12 8 = a at *
  generalize partF x 20 1 = b at *
  generalize partF x 21 10 = c at *
  generalize partF x 31 1 = d at *
  generalize sgn x / 2147483648 = e at *
  rcases t with ⟨rfl, rfl⟩ | ⟨rfl, rfl⟩ <;> split <;> omega
theorem branch_eq (x : Int) (hx0 : 0 ≤ x) (hx1 : x < 4294967296) : branchImm x = signF (partF x 8 4 * 2 + partF x 25 6 * 32 + partF x 7 1 * 2048 + partF x 31 1 * 4096) 13 := by
  have p1 := part_bd x 8 4 (by decide)
  have p2 := part_bd x 25 6 (by decide)
  have p3 := part_bd x 7 1 (by decide)
  have t := top31 x hx0 hx1
  unfold branchImm signF
  simp only [Int.reducePow, Nat.reduceSub] at p1 p2 p3 ⊢
  generalize partF x 8 4 = a at *
  generalize partF x 25 6 = b at *
  generalize partF x 7 1 = c at *
  generalize partF x 31 1 = d at *
  generalize sgn x / 2147483648 = e at *
  rcases t with ⟨rfl, rfl⟩ | ⟨rfl, rfl⟩ <;> split <;> omega
theorem store_eq (x : Int) (hx0 : 0 ≤ x) (hx1 : x < 4294967296) : storeImm x = signF (partF x 7 5 + partF x 25 7 * 32) 12 := by
  have p1 := part_bd x 7 5 (by decide)
  have hr : 0 ≤ partF x 25 7 ∧ partF x 25 7 < 128 ∧ sgn x / 33554432 = if partF x 25 7 / 64 % 2 = 1 then partF x 25 7 - 128 else partF x 25 7 := by
    unfold sgn partF
    simp only [Int.reducePow]
    refine ⟨by omega, by omega, ?_⟩
    split <;> split <;> omega
  obtain ⟨r0, r1, r2⟩ := hr
  unfold storeImm signF
  simp only [Int.reducePow, Nat.reduceSub] at p1 ⊢
  rw [r2]
  generalize partF x 25 7 = a at *
  generalize partF x 7 5 = b at *
  split <;> split <;> omega
theorem low_eq (x : Int) (hx0 : 0 ≤ x) (hx1 : x < 4294967296) : sgn x / 1048576 = signF (partF x 20 12) 12 := by
  unfold signF partF sgn
  simp only [Int.reducePow, Nat.reduceSub]
  split <;> split <;> omega
end Go.Proofs.YtcpmgklhfpcaeaaGreatDoor
