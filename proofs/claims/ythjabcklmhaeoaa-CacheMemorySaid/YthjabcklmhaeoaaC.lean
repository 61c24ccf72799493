/- Part C of the proofs over 'cache': a line as it is; bytes read and written. -/
import Derived.Test.YthjabcklmhaeoaaB
namespace Go.Proofs.Ythjabcklmhaeoaa
open Go.RowKit Go.XHeap Go.Sx
set_option linter.unusedVariables false

def lineCells (y : Way) : List Value := .int .u32 y.line :: .int .i64 y.state :: u8s y.bytes
theorem u8s_len (l : List Int) : (u8s l).length = l.length := by simp [u8s]
theorem lineCells_len {y : Way} (h : y.bytes.length = 16) : (lineCells y).length = 18 := by simp [lineCells, u8s_len, h]
theorem u8s_one (l : List Int) : ∀ v ∈ u8s l, v.oneCell' = true := by
  intro v hv
  obtain ⟨x, -, rfl⟩ := List.mem_map.1 hv
  rfl
theorem lineCells_one (y : Way) : ∀ v ∈ lineCells y, v.oneCell' = true := by
  intro v hv
  simp only [lineCells, List.mem_cons] at hv
  rcases hv with rfl | rfl | hv
  · rfl
  · rfl
  · exact u8s_one _ v hv
theorem as_any {W : World} {b : Nat} {C : CS} (h : CacheAt W b C) {i j : Nat} (hi : i < C.S) {y : Way} (hj : (C.sets i)[j]? = some y) :
    Calls Try.prog 12 #[.pointer (some ⟨C.g i, j * 19, none⟩)] W fun e w => e = .returned (.agg (lineCells y).toArray) ∧ XTouch (fun _ => False) W w := by
  refine vc12 (C.g i) (j * 19) ?_
  rintro k w2 rfl rfl w3 rfl
  have h3 : CacheAt ((W.alloc (.cells _ 40)).drew) b C := h.keep (((XTouch.refl (fun _ => False) W).alloc (.cells #[Value.int IntKind.u32 0, Value.int IntKind.i64 0, Value.int IntKind.u8 0, Value.int IntKind.u8 0, Value.int IntKind.u8 0, Value.int IntKind.u8 0, Value.int IntKind.u8 0, Value.int IntKind.u8 0, Value.int IntKind.u8 0, Value.int IntKind.u8 0, Value.int IntKind.u8 0, Value.int IntKind.u8 0, Value.int IntKind.u8 0, Value.int IntKind.u8 0, Value.int IntKind.u8 0, Value.int IntKind.u8 0, Value.int IntKind.u8 0, Value.int IntKind.u8 0] 40)).drew) (fun _ _ e => e)
  refine ⟨y.line, by have := h3.way hi hj 0 (by omega); exact this, y.state, h3.way hi hj 1 (by omega), ?_⟩
  have hy := h.ok16 hi hj
  refine ⟨(u8s y.bytes).toArray, by simp [u8s_len, hy], ?_, by simp [u8s_len, hy], ?_⟩
  · intro q v hq
    rw [add_none]
    have hq' : q < 16 := by have := (Array.getElem?_eq_some_iff.1 hq).1; simp [u8s_len, hy] at this; exact this
    rw [show j * 19 + 3 + q = j * 19 + (3 + q) by omega, h3.way hi hj (3 + q) (by omega)]
    rw [← hq, List.getElem?_toArray]
    unfold Way.cells
    rw [show 3 + q = q + 1 + 1 + 1 by omega]
    simp
  rintro vs2 rfl
  have hB : Blk (W.alloc (.cells #[Value.int IntKind.u32 0, Value.int IntKind.i64 0, Value.int IntKind.u8 0, Value.int IntKind.u8 0, Value.int IntKind.u8 0, Value.int IntKind.u8 0, Value.int IntKind.u8 0, Value.int IntKind.u8 0, Value.int IntKind.u8 0, Value.int IntKind.u8 0, Value.int IntKind.u8 0, Value.int IntKind.u8 0, Value.int IntKind.u8 0, Value.int IntKind.u8 0, Value.int IntKind.u8 0, Value.int IntKind.u8 0, Value.int IntKind.u8 0, Value.int IntKind.u8 0] 40)).drew W.heap.size _ 40 := (Blk.new W _ 40).drew
  have e : (Value.int IntKind.u32 y.line :: Value.int IntKind.i64 y.state :: ((u8s y.bytes).toArray.toList ++ [])) = lineCells y := by simp [lineCells]
  rw [e]
  refine out_cell (lineCells y).toArray hB rfl (by simp [lineCells_len hy]) (by simpa using lineCells_one y) ?_
  intro w' hb' ht
  refine ⟨(lineCells y).toArray, by simp [lineCells_len hy], cellsAt_self hb', rfl, ?_⟩
  refine (((XTouch.refl (fun _ => False) W).alloc _).drew).trans ht ?_
  intro k hk e
  subst e
  simp at hk

/-! ### reading -/
/-- the number of some bytes, the lowest first -/
def le : List Int → Int
  | [] => 0
  | x :: r => x + 256 * le r
def Bytes (l : List Int) : Prop := ∀ x ∈ l, 0 ≤ x ∧ x < 256
theorem le_bound : ∀ {l : List Int}, Bytes l → 0 ≤ le l ∧ le l < 256 ^ l.length
  | [], _ => ⟨Int.le_refl _, by decide⟩
  | x :: r, h => by
    have h1 := h x (.head _)
    have h2 := le_bound (l := r) (fun z hz => h z (.tail _ hz))
    unfold le
    refine ⟨by omega, ?_⟩
    rw [List.length_cons, Int.pow_succ]
    omega
theorem le_snoc : ∀ (l : List Int) (x : Int), le (l ++ [x]) = le l + 256 ^ l.length * x
  | [], x => by simp [le]
  | y :: r, x => by
    rw [List.cons_append]
    unfold le
    rw [le_snoc r x, List.length_cons, Int.pow_succ, Int.mul_add]
    rw [show (256 : Int) ^ r.length * 256 * x = 256 * (256 ^ r.length * x) by rw [Int.mul_comm (256 ^ r.length) 256, Int.mul_assoc]]
    omega
theorem or_put (x : Nat) (hx : x < 4) (v c : Nat) (hv : v < 256 ^ x) (hc : c < 256) :
    IntKind.wrap .u32 ((BitVec.ofInt (IntKind.bits .u32) (v : Int) ||| BitVec.ofInt (IntKind.bits .u32) (IntKind.wrap .u32 ((c : Int) * 2 ^ min ((8 * (x : Int)).toNat) (IntKind.bits .u32)))).toNat : Int) = (v : Int) + 256 ^ x * (c : Int) := by
  have e8 : (8 * (x : Int)).toNat = 8 * x := by omega
  have emin : min (8 * x) (IntKind.bits .u32) = 8 * x := by simp [IntKind.bits]; omega
  have epow : (256 : Nat) ^ x = 2 ^ (8 * x) := by rw [show (256 : Nat) = 2 ^ 8 from rfl, ← Nat.pow_mul]
  have hp : 2 ^ (8 * x) ≤ 2 ^ 24 := Nat.pow_le_pow_right (by omega) (by omega)
  have hmul : c * 2 ^ (8 * x) < 2 ^ 32 := by
    have : c * 2 ^ (8 * x) ≤ 255 * 2 ^ 24 := Nat.mul_le_mul (by omega) hp
    omega
  rw [e8, emin]
  have e1 : ((c : Int) * 2 ^ (8 * x)) = ((c * 2 ^ (8 * x) : Nat) : Int) := by simp
  rw [e1, w32 (e := ((c * 2 ^ (8 * x) : Nat) : Int)) (by omega) (by omega)]
  rw [epow] at hv
  have hv32 : v < 2 ^ 32 := by omega
  have e2 : (BitVec.ofInt (IntKind.bits .u32) (v : Int) ||| BitVec.ofInt (IntKind.bits .u32) ((c * 2 ^ (8 * x) : Nat) : Int)).toNat = v ||| c * 2 ^ (8 * x) := by
    rw [BitVec.toNat_or, BitVec.ofInt_natCast, BitVec.ofInt_natCast, BitVec.toNat_ofNat, BitVec.toNat_ofNat]
    rw [Nat.mod_eq_of_lt (show v < 2 ^ IntKind.bits .u32 from hv32), Nat.mod_eq_of_lt (show c * 2 ^ (8 * x) < 2 ^ IntKind.bits .u32 from hmul)]
  rw [e2]
  have e3 : v ||| c * 2 ^ (8 * x) = v + 2 ^ (8 * x) * c := by
    rw [Nat.or_comm, Nat.mul_comm c, ← Nat.two_pow_add_eq_or_of_lt hv, Nat.add_comm]
  rw [e3]
  have hlt : v + 2 ^ (8 * x) * c < 2 ^ 32 := by
    rw [Nat.mul_comm]
    have : c * 2 ^ (8 * x) ≤ 255 * 2 ^ (8 * x) := Nat.mul_le_mul_right _ (by omega)
    have : 2 ^ (8 * x) + 255 * 2 ^ (8 * x) = 256 * 2 ^ (8 * x) := by omega
    omega
  rw [w32 (by omega) (by omega)]
  have : ((256 : Int) ^ x) = ((2 ^ (8 * x) : Nat) : Int) := by rw [← epow]; simp
  rw [this]
  simp
theorem read_ok {W : World} {b : Nat} {C : CS} (h : CacheAt W b C) (a : Nat) (ha : a < 1024) (s : Nat) (hs : s = 1 ∨ s = 2 ∨ s = 4) (hal : a % s = 0) {j : Nat} (hf : find? (C.sets (C.ix a)) (a / 16 * 16) = some j) {y : Way} (hj : (C.sets (C.ix a))[j]? = some y) (hl : 1 ≤ y.state) (hB : Bytes y.bytes) :
    Calls Try.prog 9 #[.pointer (some ⟨b, 0, none⟩), .int .u32 a, .int .i64 s] W fun e w => e = .returned (.tuple #[.int .u32 (le ((y.bytes.drop (a % 16)).take s)), .bool true]) ∧ ∃ u, CacheAt w b ((C.tick u).setWay (C.ix a) j { y with used := u }) ∧ XTouch (C.own b) W w := by
  have hlt := CS.ix_lt h a
  have hy := h.ok16 hlt hj
  have hin : a % 16 + s ≤ 16 := by rcases hs with rfl | rfl | rfl <;> omega
  have hs4 : s ≤ 4 := by rcases hs with rfl | rfl | rfl <;> omega
  refine vc9 b 0 a s ((part_ok h a ha s hs hal 1 hf hj hl).mono ?_)
  rintro e w2 ⟨rfl, u, hc, ht⟩
  refine ⟨_, _, _, _, rfl, ?_⟩
  refine ⟨fun x v w => ∃ n : Nat, x = n ∧ n ≤ s ∧ v = le ((y.bytes.drop (a % 16)).take n) ∧ w = w2, fun x _ _ => s - x.toNat, ⟨0, rfl, by omega, by simp [le], rfl⟩, fun _ => ?_⟩
  rintro x v w3 ⟨n, rfl, hn, rfl, rfl⟩
  refine split_of (fun hx => ?_) (fun hx => ?_)
  · have hx := of_decide_eq_true hx
    have hns : n < s := by omega
    have hlen : a % 16 + n < y.bytes.length := by omega
    have hj2 : (((C.tick u).setWay (C.ix a) j { y with used := u }).sets (C.ix a))[j]? = some { y with used := u } := by
      simp only [CS.setWay, upd, if_true]
      rw [List.getElem?_set_self]
      exact (List.getElem?_eq_some_iff.1 hj).1
    obtain ⟨c, hcb, hce⟩ : ∃ c : Nat, c < 256 ∧ y.bytes[a % 16 + n]? = some (c : Int) := by
      have hm := hB _ (List.getElem_mem hlen)
      refine ⟨y.bytes[a % 16 + n].toNat, by omega, ?_⟩
      rw [List.getElem?_eq_getElem hlen]
      congr 1
      omega
    have cell : w3.cell? ⟨C.g (C.ix a), j * 19 + 3 + a % 16 + ((n : Nat) : Int).toNat * 1, none⟩ = some (.int .u8 (c : Int)) := by
      have := hc.way (i := C.ix a) hlt hj2 (3 + (a % 16 + n)) (by omega)
      rw [show j * 19 + 3 + a % 16 + ((n : Nat) : Int).toNat * 1 = j * 19 + (3 + (a % 16 + n)) by omega]
      refine this.trans ?_
      unfold Way.cells u8s
      rw [show 3 + (a % 16 + n) = a % 16 + n + 1 + 1 + 1 by omega]
      simp [hce]
    refine ⟨⟨by omega, by omega⟩, c, cell, ?_⟩
    rintro z2 rfl z3 hz3
    rw [w64 (by omega) (by omega)] at hz3
    subst hz3
    refine ⟨by omega, ?_⟩
    rintro z4 rfl z5 hz5 z6 rfl
    have hBn : Bytes ((y.bytes.drop (a % 16)).take n) := fun q hq => hB q (List.mem_of_mem_drop (List.mem_of_mem_take hq))
    have hb := le_bound hBn
    have hln : ((y.bytes.drop (a % 16)).take n).length = n := by simp; omega
    rw [hln] at hb
    obtain ⟨vn, hvn⟩ := Int.eq_ofNat_of_zero_le hb.1
    have hvb : vn < 256 ^ n := by
      have h1 := hb.2
      rw [hvn] at h1
      have e : (256 : Int) ^ n = ((256 ^ n : Nat) : Int) := by simp
      rw [e] at h1
      omega
    rw [w32 (e := (c : Int)) (by omega) (by omega), hvn, or_put n (by omega) vn c hvb hcb] at hz5
    subst hz5
    rw [w64 (by omega) (by omega)]
    refine ⟨⟨n + 1, by omega, by omega, ?_, rfl⟩, by show s - ((n : Int) + 1).toNat < s - (n : Int).toNat; omega⟩
    rw [List.take_succ_eq_append_getElem (by simp; omega), le_snoc, hln, ← hvn]
    congr 2
    have : (y.bytes.drop (a % 16))[n]'(by simp; omega) = y.bytes[a % 16 + n] := by simp
    rw [this]
    rw [List.getElem?_eq_getElem hlen] at hce
    exact (Option.some.inj hce).symm
  · have hx := of_decide_eq_false hx
    obtain rfl : n = s := by omega
    exact ⟨rfl, u, hc, ht⟩
end Go.Proofs.Ythjabcklmhaeoaa
