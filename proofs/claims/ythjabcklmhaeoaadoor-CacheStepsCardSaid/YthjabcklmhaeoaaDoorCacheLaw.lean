/- The law's own functions: made, line. No condition. -/
import Derived.Test.YthjabcklmhaeoaaDoorCacheU
import Derived.Test.YthjabcklmhaeoaaDoorCacheLawVc
import Derived.Test.YthjabcklmhaeoaaDoorSEq
namespace Go.Proofs.YthjabcklmhaeoaaDoor
open Go.RowKit Go.XHeap Go.Sx Go.Sep
set_option linter.unusedVariables false
set_option maxRecDepth 100000

def mbZ (n : Int) (k : Nat) : Int := IntKind.wrap .u8 (IntKind.wrap .i64 (Int.fdiv n (2 ^ min (Int.toNat (Int.tmod (k : Int) 8)) (IntKind.bits .i64)) + IntKind.wrap .i64 (17 * (k : Int))))
def mb (n : Int) (k : Nat) : Nat := (mbZ n k).toNat
theorem mbZ_eq (n : Int) (k : Nat) : mbZ n k = (mb n k : Nat) := by
  unfold mb mbZ
  rw [w8]
  omega
theorem mb_lt (n : Int) (k : Nat) : mb n k < 256 := by
  unfold mb mbZ
  rw [w8]
  omega
def madeL (n : Int) (m : Nat) : List Nat := (List.range m).map (mb n) ++ List.replicate (16 - m) 0
theorem madeL_len (n : Int) {m : Nat} (h : m ≤ 16) : (madeL n m).length = 16 := by simp [madeL]; omega
theorem madeL_set (n : Int) {m : Nat} (h : m < 16) : (madeL n m).set m (mb n m) = madeL n (m + 1) := by
  unfold madeL
  rw [List.set_append_right _ _ (by simp), List.length_map, List.length_range, Nat.sub_self, show 16 - m = (16 - (m + 1)) + 1 by omega, List.replicate_succ, List.set_cons_zero, List.range_succ, List.map_append]
  simp
def madeB (n : Int) : List Nat := madeL n 16
theorem madeB_len (n : Int) : (madeB n).length = 16 := madeL_len n (by decide)
theorem madeB_lt (n : Int) : ∀ x ∈ madeB n, x < 256 := by
  intro x hx
  simp only [madeB, madeL, Nat.sub_self, List.replicate_zero, List.append_nil, List.mem_map] at hx
  obtain ⟨k, -, rfl⟩ := hx
  exact mb_lt n k
theorem made_any (W : World) (n : Int) : Calls Tryd.prog 14 #[.int .i64 n] W fun e w => e = .returned (.agg (u8n (madeB n)).toArray) ∧ Hush W w := by
  refine vc14 n ((St.nil W).al fun k w2 H => H.al fun k2 w3 H => ?_)
  have H : St W (fun _ => False) w3 [blk k (u8n (madeL n 0)).toArray 45, blk k2 (u8n (madeL n 0)).toArray 45] := H
  refine ⟨fun x w => ∃ m : Nat, x = m ∧ m ≤ 16 ∧ St W (fun _ => False) w [blk k (u8n (madeL n 0)).toArray 45, blk k2 (u8n (madeL n m)).toArray 45], fun x _ => 16 - x.toNat, ⟨0, rfl, by omega, H⟩, fun _ => ?_⟩
  clear H
  rintro x w4 ⟨m, rfl, hm, H⟩
  refine split_of (fun q => ?_) (fun q => ?_)
  · have q := of_decide_eq_true q
    refine ⟨by decide, ?_⟩
    rintro z rfl
    refine ⟨by rw [show Int.tmod (m : Int) 8 = ((m % 8 : Nat) : Int) from rfl]; omega, ?_⟩
    rintro z2 rfl z3 rfl z4 rfl z5 rfl
    rw [ix1, Nat.zero_add]
    refine ⟨⟨by omega, by omega⟩, H.st 1 rfl (by simp [u8n_len, madeL_len n hm]; omega) fun w5 H => ?_⟩
    rintro z6 rfl
    rw [w64 (e := (m : Int) + 1) (by omega) (by omega)]
    refine ⟨⟨m + 1, by omega, by omega, ?_⟩, by show 16 - ((m : Int) + 1).toNat < 16 - (m : Int).toNat; omega⟩
    have e : (u8n (madeL n (m + 1))).toArray = (u8n (madeL n m)).toArray.setIfInBounds m (.int .u8 (mbZ n m)) := by
      rw [List.setIfInBounds_toArray, mbZ_eq, ← madeL_set n (by omega)]
      congr 1
      simp [u8n, List.map_set]
    rw [e]
    exact H
  · have q := of_decide_eq_false q
    obtain rfl : m = 16 := by omega
    have hs : (u8n (madeL n 16)).toArray.size = 16 := by simp [u8n_len, madeL_len n (Nat.le_refl 16)]
    exact ⟨_, hs, H.cells 1 rfl, H.sts0 0 rfl hs (by simp [u8n_len, madeL_len n (Nat.zero_le 16)]) (by simpa using u8n_one _) fun w5 H => ⟨_, hs, H.cells 0 rfl, rfl, H.touch⟩⟩
/-- the same line, told in two ways -/
theorem line_same (W : World) (l s : Nat) (bs : List Nat) (hl : l < 4294967296) (hb : bs.length = 16) :
    Calls Tryd.prog 16 #[.agg (lineC l s bs).toArray, .agg (RLine.mk l s bs).cells.toArray] W fun e w => e = .returned (.bool true) ∧ Hush W w := by
  have hs : (u8n bs).toArray.size = 16 := by simp [u8n_len, hb]
  refine vc16 _ _ ((St.nil W).al fun k w2 H => H.al fun k2 w3 H => ?_)
  have H : St W (fun _ => False) w3 [blk k (lineC l s bs).toArray 47, blk k2 (RLine.mk l s bs).cells.toArray 52] := H
  refine ⟨l, H.ld 0 rfl rfl, ?_⟩
  rintro z2 rfl
  rw [Bits.n64 (by omega)]
  refine ⟨l, H.ld 1 rfl rfl, split_of (fun _ => ⟨s, H.ld 0 rfl rfl, s, H.ld 1 rfl rfl, split_of (fun _ => ?_) (fun q => by simp at q)⟩) (fun q => by simp at q)⟩
  have go : ∀ j u, (u8n bs).toArray[j]? = some u → (lineC l s bs).toArray[0 + 2 + j]? = some u := fun j u hj => by
    have : (u8n bs)[j]? = some u := by simpa using hj
    rw [show 0 + 2 + j = j + 2 by omega]
    simpa [lineC] using this
  have go2 : ∀ j u, (u8n bs).toArray[j]? = some u → (RLine.mk l s bs).cells.toArray[0 + 2 + j]? = some u := fun j u hj => by
    have : (u8n bs)[j]? = some u := by simpa using hj
    rw [show 0 + 2 + j = j + 2 by omega]
    simpa [RLine.cells] using this
  refine ⟨_, hs, H.lds 0 rfl go, _, hs, H.lds 1 rfl go2, true, fun w => SEq.eql_run (by kernel_rfl) (SEq.array_same (n := 16) (e := 5) (by kernel_rfl) (i := _) rfl fun j hj => ?_) _ _ w, rfl, H.touch⟩
  have hj2 : j < bs.length := by omega
  refine ⟨.int .u8 bs[j], ?_, .inl ⟨.u8, _, by kernel_rfl, rfl⟩⟩
  rw [show j * Tryd.prog.cellsOf 5 = j by rw [show Tryd.prog.cellsOf 5 = 1 by kernel_rfl]; omega]
  simpa using u8n_get (List.getElem?_eq_getElem hj2)
end Go.Proofs.YthjabcklmhaeoaaDoor
