/- Part K: the document's rows: what is fixed and the fields, for every operation. -/
import Derived.Test.YtcpmgklhfpcaeaaGreatDoorIsaH
import Derived.Test.YtcpmgklhfpcaeaaGreatDoorIsaGa
import Derived.Test.YtcpmgklhfpcaeaaGreatDoorIsaJ
namespace Go.Proofs.YtcpmgklhfpcaeaaGreatDoor
open Go.RowKit Go.XHeap
set_option linter.unusedVariables false
set_option maxRecDepth 100000

def letters : List Int := [85, 74, 73, 76, 72, 67, 68, 66, 83, 82, 75, 65, 70, 78]
def fixT (l c a g : Int) : Int × Int :=
  match l with
  | 85 => (127, c)
  | 74 => (127, c)
  | 72 => (bits .or .u32 127 4261441536, bits .or .u32 (bits .or .u32 c (a * 4096)) (g * 33554432 % 4294967296))
  | 82 => (bits .or .u32 127 4261441536, bits .or .u32 (bits .or .u32 c (a * 4096)) (g * 33554432 % 4294967296))
  | 65 => (bits .or .u32 127 4160778240, bits .or .u32 (bits .or .u32 c (a * 4096)) (g * 134217728 % 4294967296))
  | 75 => (bits .or .u32 127 4193284096, bits .or .u32 (bits .or .u32 c (a * 4096)) (g * 134217728 % 4294967296))
  | 70 => (4027580415, c)
  | 78 => (4294967295, bits .or .u32 c (g * 1048576))
  | 73 => (bits .or .u32 127 28672, bits .or .u32 c (a * 4096))
  | 76 => (bits .or .u32 127 28672, bits .or .u32 c (a * 4096))
  | 66 => (bits .or .u32 127 28672, bits .or .u32 c (a * 4096))
  | 83 => (bits .or .u32 127 28672, bits .or .u32 c (a * 4096))
  | 67 => (bits .or .u32 127 28672, bits .or .u32 c (a * 4096))
  | 68 => (bits .or .u32 127 28672, bits .or .u32 c (a * 4096))
  | _ => (0, 0)
def fieldsT (l x : Int) : Int × Int × Int × Int :=
  match l with
  | 85 => (partF x 7 5, 0, 0, partF x 12 20)
  | 74 => (partF x 7 5, 0, 0, signF (jumpImm2 x) 21)
  | 73 => (partF x 7 5, partF x 15 5, 0, signF (partF x 20 12) 12)
  | 76 => (partF x 7 5, partF x 15 5, 0, signF (partF x 20 12) 12)
  | 72 => (partF x 7 5, partF x 15 5, 0, partF x 20 5)
  | 67 => (partF x 7 5, partF x 15 5, 0, partF x 20 12)
  | 68 => (partF x 7 5, partF x 15 5, 0, partF x 20 12)
  | 66 => (0, partF x 15 5, partF x 20 5, signF (branchImm2 x) 13)
  | 83 => (0, partF x 15 5, partF x 20 5, signF (storeImm2 x) 12)
  | 82 => (partF x 7 5, partF x 15 5, partF x 20 5, 0)
  | 75 => (partF x 7 5, partF x 15 5, 0, partF x 25 2)
  | 65 => (partF x 7 5, partF x 15 5, partF x 20 5, partF x 25 2)
  | 70 => (0, 0, 0, partF x 20 8)
  | 78 => (0, 0, 0, 0)
  | _ => (0, 0, 0, 0)
theorem rows_ok : ((List.range 67).all fun i => letters.contains (rF (i + 1 : Nat)) && decide (0 ≤ rC (i + 1 : Nat)) && decide (rC (i + 1 : Nat) < 128) && decide (0 ≤ rA (i + 1 : Nat)) && decide (rA (i + 1 : Nat) < 8) && decide (0 ≤ rG (i + 1 : Nat)) && decide (rG (i + 1 : Nat) < 4096) && (fixT (rF (i + 1 : Nat)) (rC (i + 1 : Nat)) (rA (i + 1 : Nat)) (rG (i + 1 : Nat)) == (shP (i + 1 : Nat)).2)) = true := by kernel_rfl
def rowOf (op : Int) : Value := rowV (rowAt op).1 (rF op) (rC op) (rA op) (rG op)
theorem letter_cases {l : Int} (h : letters.contains l = true) : l = 85 ∨ l = 74 ∨ l = 73 ∨ l = 76 ∨ l = 72 ∨ l = 67 ∨ l = 68 ∨ l = 66 ∨ l = 83 ∨ l = 82 ∨ l = 75 ∨ l = 65 ∨ l = 70 ∨ l = 78 := by
  simpa [letters] using h
theorem fixed_op (op : Int) (h1 : 1 ≤ op) (h2 : op ≤ 67) (w : World) : Calls Tryz.prog 100 #[rowOf op] w (FixedIs (shP op).2.1 (shP op).2.2 w) := by
  have h := List.all_eq_true.1 rows_ok (op.toNat - 1) (List.mem_range.2 (by omega))
  simp only [Bool.and_eq_true, decide_eq_true_eq, beq_iff_eq] at h
  have e : ((op.toNat - 1 + 1 : Nat) : Int) = op := by omega
  rw [e] at h
  obtain ⟨⟨⟨⟨⟨⟨⟨hl, c0⟩, c1⟩, a0⟩, a1⟩, g0⟩, g1⟩, hf⟩ := h
  rw [← hf]
  unfold rowOf
  generalize (rowAt op).1 = s at *
  generalize rF op = l at *
  generalize rC op = c at *
  generalize rA op = a at *
  generalize rG op = g at *
  rcases letter_cases hl with rfl | rfl | rfl | rfl | rfl | rfl | rfl | rfl | rfl | rfl | rfl | rfl | rfl | rfl
  · exact fixed_85 s c a g c0 c1 a0 a1 g0 g1 w
  · exact fixed_74 s c a g c0 c1 a0 a1 g0 g1 w
  · exact fixed_73 s c a g c0 c1 a0 a1 g0 g1 w
  · exact fixed_76 s c a g c0 c1 a0 a1 g0 g1 w
  · exact fixed_72 s c a g c0 c1 a0 a1 g0 g1 w
  · exact fixed_67 s c a g c0 c1 a0 a1 g0 g1 w
  · exact fixed_68 s c a g c0 c1 a0 a1 g0 g1 w
  · exact fixed_66 s c a g c0 c1 a0 a1 g0 g1 w
  · exact fixed_83 s c a g c0 c1 a0 a1 g0 g1 w
  · exact fixed_82 s c a g c0 c1 a0 a1 g0 g1 w
  · exact fixed_75 s c a g c0 c1 a0 a1 g0 g1 w
  · exact fixed_65 s c a g c0 c1 a0 a1 g0 g1 w
  · exact fixed_70 s c a g c0 c1 a0 a1 g0 g1 w
  · exact fixed_78 s c a g c0 c1 a0 a1 g0 g1 w
theorem fields_op (op : Int) (h1 : 1 ≤ op) (h2 : op ≤ 67) (x : Int) (hx0 : 0 ≤ x) (hx1 : x < 4294967296) (w : World) : Calls Tryz.prog 101 #[rowOf op, .int .u32 x] w (ReadT (fieldsT (rF op) x) w) := by
  have h := List.all_eq_true.1 rows_ok (op.toNat - 1) (List.mem_range.2 (by omega))
  simp only [Bool.and_eq_true, decide_eq_true_eq, beq_iff_eq] at h
  have e : ((op.toNat - 1 + 1 : Nat) : Int) = op := by omega
  rw [e] at h
  obtain ⟨⟨⟨⟨⟨⟨⟨hl, -⟩, -⟩, -⟩, -⟩, -⟩, -⟩, -⟩ := h
  unfold rowOf
  generalize (rowAt op).1 = s at *
  generalize rF op = l at *
  generalize rC op = c at *
  generalize rA op = a at *
  generalize rG op = g at *
  rcases letter_cases hl with rfl | rfl | rfl | rfl | rfl | rfl | rfl | rfl | rfl | rfl | rfl | rfl | rfl | rfl
  · exact fields_85 s c a g x hx0 hx1 w
  · exact fields_74 s c a g x hx0 hx1 w
  · exact fields_73 s c a g x hx0 hx1 w
  · exact fields_76 s c a g x hx0 hx1 w
  · exact fields_72 s c a g x hx0 hx1 w
  · exact fields_67 s c a g x hx0 hx1 w
  · exact fields_68 s c a g x hx0 hx1 w
  · exact fields_66 s c a g x hx0 hx1 w
  · exact fields_83 s c a g x hx0 hx1 w
  · exact fields_82 s c a g x hx0 hx1 w
  · exact fields_75 s c a g x hx0 hx1 w
  · exact fields_65 s c a g x hx0 hx1 w
  · exact fields_70 s c a g x hx0 hx1 w
  · exact fields_78 s c a g x hx0 hx1 w
def pairsL : List (Int × Int) := [(0, 78), (1, 85), (2, 74), (3, 66), (4, 76), (5, 83), (6, 73), (7, 72), (8, 82), (9, 65), (11, 70), (12, 67), (13, 68)]
theorem pairs_ok : ((List.range 67).all fun i => i == 45 || pairsL.contains ((shP (i + 1 : Nat)).1, rF (i + 1 : Nat))) = true := by kernel_rfl
theorem pair46 : (shP 46).1 = 10 ∧ rF 46 = 75 ∧ mN 45 / 1048576 % 32 = 31 ∧ vN 45 / 1048576 % 32 = 0 := ⟨by kernel_rfl, by kernel_rfl, by kernel_rfl, by kernel_rfl⟩
theorem rs2_none (x : Int) (hx0 : 0 ≤ x) (hx1 : x < 4294967296) (h : Mt 46 x) : partF x 20 5 = 0 := by
  rw [mt_nat (by decide) (by decide) hx0 hx1] at h
  obtain ⟨-, -, p3, p4⟩ := pair46
  have h2 : (x.toNat &&& mN 45) = vN 45 := h
  have h3 := congrArg (fun n => n / 2 ^ 20 % 2 ^ 5) h2
  simp only [Nat.and_div_two_pow, Nat.and_mod_two_pow] at h3
  have e1 : mN 45 / 2 ^ 20 % 2 ^ 5 = 2 ^ 5 - 1 := p3
  have e2 : vN 45 / 2 ^ 20 % 2 ^ 5 = 0 := p4
  rw [e1, e2, Nat.and_two_pow_sub_one_eq_mod, Nat.mod_mod] at h3
  unfold partF
  simp only [Int.reducePow]
  have h4 : x.toNat / 1048576 % 32 = 0 := h3
  omega
theorem fields_eq (op : Int) (h1 : 1 ≤ op) (h2 : op ≤ 67) (x : Int) (hx0 : 0 ≤ x) (hx1 : x < 4294967296) (hM : Mt op x) : readT (shP op).1 x = fieldsT (rF op) x := by
  by_cases h46 : op = 46
  · subst h46
    obtain ⟨p1, p2, -, -⟩ := pair46
    rw [p1, p2]
    have := rs2_none x hx0 hx1 hM
    show (partF x 7 5, partF x 15 5, partF x 20 5, partF x 25 2) = (partF x 7 5, partF x 15 5, 0, partF x 25 2)
    rw [this]
  · have h := List.all_eq_true.1 pairs_ok (op.toNat - 1) (List.mem_range.2 (by omega))
    have e : ((op.toNat - 1 + 1 : Nat) : Int) = op := by omega
    rw [e] at h
    simp only [Bool.or_eq_true, beq_iff_eq] at h
    rcases h with h | h
    · omega
    · generalize (shP op).1 = f at *
      generalize rF op = l at *
      simp only [pairsL, List.contains_cons, List.contains_nil, Bool.or_eq_true, beq_iff_eq, Prod.mk.injEq, Bool.or_false] at h
      rcases h with ⟨rfl, rfl⟩ | ⟨rfl, rfl⟩ | ⟨rfl, rfl⟩ | ⟨rfl, rfl⟩ | ⟨rfl, rfl⟩ | ⟨rfl, rfl⟩ | ⟨rfl, rfl⟩ | ⟨rfl, rfl⟩ | ⟨rfl, rfl⟩ | ⟨rfl, rfl⟩ | ⟨rfl, rfl⟩ | ⟨rfl, rfl⟩ | ⟨rfl, rfl⟩
      · exact rfl
      · exact rfl
      · exact congrArg (fun z => ((partF x 7 5, 0, 0, z) : Int × Int × Int × Int)) (jump_eq x hx0 hx1)
      · exact congrArg (fun z => ((0, partF x 15 5, partF x 20 5, z) : Int × Int × Int × Int)) (branch_eq x hx0 hx1)
      · exact congrArg (fun z => ((partF x 7 5, partF x 15 5, 0, z) : Int × Int × Int × Int)) (low_eq x hx0 hx1)
      · exact congrArg (fun z => ((0, partF x 15 5, partF x 20 5, z) : Int × Int × Int × Int)) (store_eq x hx0 hx1)
      · exact congrArg (fun z => ((partF x 7 5, partF x 15 5, 0, z) : Int × Int × Int × Int)) (low_eq x hx0 hx1)
      · exact rfl
      · exact rfl
      · exact rfl
      · exact rfl
      · exact rfl
      · exact rfl
end Go.Proofs.YtcpmgklhfpcaeaaGreatDoor
