/- Part D of the proofs over 'cache': bytes written, a line laid in. -/
import Derived.Test.YthjabcklmhaeoaaC
namespace Go.Proofs.Ythjabcklmhaeoaa
open Go.RowKit Go.XHeap Go.Sx
set_option linter.unusedVariables false

theorem upd_upd {α : Type} (f : Nat → α) (i : Nat) (x y : α) : upd (upd f i x) i y = upd f i y := by
  funext k; unfold upd; split <;> rfl
theorem upd_same {α : Type} (f : Nat → α) (i : Nat) (x : α) : upd f i x i = x := by simp [upd]
theorem setWay_sets (C : CS) (i j : Nat) (y : Way) : (C.setWay i j y).sets i = (C.sets i).set j y := upd_same _ _ _
theorem setWay_setWay (C : CS) (i j : Nat) (y z : Way) : (C.setWay i j y).setWay i j z = C.setWay i j z := by
  unfold CS.setWay
  simp only [upd_same, upd_upd, List.set_set]
theorem setWay_get {C : CS} {i j : Nat} {y : Way} (h : j < (C.sets i).length) (z : Way) : ((C.setWay i j z).sets i)[j]? = some z := by
  rw [setWay_sets, List.getElem?_set_self h]
/-- byte i of a number -/
def byteOf (d : Int) (i : Nat) : Int := d.fdiv (2 ^ (8 * i)) % 256
def wr (l : List Int) (k : Nat) (d : Int) : Nat → List Int
  | 0 => l
  | n + 1 => (wr l k d n).set (k + n) (byteOf d n)
theorem wr_succ (l : List Int) (k : Nat) (d : Int) (n : Nat) : wr l k d (n + 1) = (wr l k d n).set (k + n) (byteOf d n) := rfl
theorem wr_len (l : List Int) (k : Nat) (d : Int) : ∀ n, (wr l k d n).length = l.length
  | 0 => rfl
  | n + 1 => by unfold wr; rw [List.length_set, wr_len l k d n]
theorem byteOf_bound (d : Int) (i : Nat) : 0 ≤ byteOf d i ∧ byteOf d i < 256 := ⟨Int.emod_nonneg _ (by decide), Int.emod_lt_of_pos _ (by decide)⟩
theorem wr_bytes {l : List Int} (h : Bytes l) (k : Nat) (d : Int) : ∀ n, Bytes (wr l k d n)
  | 0 => h
  | n + 1 => by
    intro x hx
    rcases List.mem_or_eq_of_mem_set hx with hx | rfl
    · exact wr_bytes h k d n x hx
    · exact byteOf_bound d n
theorem write_ok {W : World} {b : Nat} {C : CS} (h : CacheAt W b C) (a : Nat) (ha : a < 1024) (s : Nat) (hs : s = 1 ∨ s = 2 ∨ s = 4) (hal : a % s = 0) (d : Int) {j : Nat} (hf : find? (C.sets (C.ix a)) (a / 16 * 16) = some j) {y : Way} (hj : (C.sets (C.ix a))[j]? = some y) (hl : 2 ≤ y.state) :
    Calls Try.prog 8 #[.pointer (some ⟨b, 0, none⟩), .int .u32 a, .int .i64 s, .int .u32 d] W fun e w => e = .returned (.bool true) ∧ ∃ u, CacheAt w b ((C.tick u).setWay (C.ix a) j { line := y.line, state := 3, used := u, bytes := wr y.bytes (a % 16) d s }) ∧ XTouch (C.own b) W w := by
  have hlt := CS.ix_lt h a
  have hy := h.ok16 hlt hj
  have hin : a % 16 + s ≤ 16 := by rcases hs with rfl | rfl | rfl <;> omega
  have hs4 : s ≤ 4 := by rcases hs with rfl | rfl | rfl <;> omega
  have hjl : j < (C.sets (C.ix a)).length := (List.getElem?_eq_some_iff.1 hj).1
  refine vc8 b 0 a s d ((part_ok h a ha s hs hal 2 hf hj hl).mono ?_)
  rintro e w2 ⟨rfl, u, hc, ht⟩
  refine ⟨_, _, _, _, rfl, split_of (fun q => by cases q) (fun _ => ?_)⟩
  refine ⟨fun x w => ∃ n : Nat, x = n ∧ n ≤ s ∧ CacheAt w b ((C.tick u).setWay (C.ix a) j { line := y.line, state := y.state, used := u, bytes := wr y.bytes (a % 16) d n }) ∧ XTouch (C.own b) W w, fun x _ => s - x.toNat, ⟨0, rfl, by omega, hc, ht⟩, fun _ => ?_⟩
  rintro x w3 ⟨n, rfl, hn, hc3, ht3⟩
  have hj3 := setWay_get (C := C.tick u) (i := C.ix a) (y := y) hjl { line := y.line, state := y.state, used := u, bytes := wr y.bytes (a % 16) d n }
  have hl3 := wr_len y.bytes (a % 16) d n
  refine split_of (fun hx => ?_) (fun hx => ?_)
  · have hx := of_decide_eq_true hx
    rintro z hz
    rw [w64 (by omega) (by omega)] at hz
    subst hz
    refine ⟨by omega, ?_⟩
    rintro z2 rfl z3 hz3
    have ez : z3 = byteOf d n := by
      rw [hz3, w8]
      unfold byteOf
      have : min (8 * (n : Int)).toNat (IntKind.bits .u32) = 8 * n := by simp [IntKind.bits]; omega
      rw [this]
    clear hz3
    subst ez
    refine ⟨⟨by omega, by omega⟩, ?_⟩
    have ea : (⟨C.g (C.ix a), j * 19 + 3 + a % 16 + ((n : Nat) : Int).toNat * 1, none⟩ : Addr) = ⟨C.g (C.ix a), j * 19 + (3 + (a % 16 + n)), none⟩ := by
      congr 1; omega
    show (∃ v, w3.cell? ⟨C.g (C.ix a), j * 19 + 3 + a % 16 + ((n : Nat) : Int).toNat * 1, none⟩ = some v) ∧ w3.frozen? ⟨C.g (C.ix a), j * 19 + 3 + a % 16 + ((n : Nat) : Int).toNat * 1, none⟩ = false ∧ _
    rw [ea]
    have hcell := hc3.way (i := C.ix a) hlt hj3 (3 + (a % 16 + n)) (by omega)
    refine ⟨⟨_, hcell.trans (List.getElem?_eq_getElem (by rw [Way.cells_len (by show (wr y.bytes (a % 16) d n).length = 16; omega)]; omega))⟩, (hc3.set _ hlt).1.frozen _, ?_⟩
    rintro w4 rfl z4 rfl
    rw [w64 (by omega) (by omega)]
    refine ⟨⟨n + 1, by omega, by omega, ?_, ?_⟩, by show s - ((n : Int) + 1).toNat < s - (n : Int).toNat; omega⟩
    · have := hc3.cell (i := C.ix a) hlt hj3 (y' := { line := y.line, state := y.state, used := u, bytes := wr y.bytes (a % 16) d (n + 1) }) (3 + (a % 16 + n)) (by omega) (.int .u8 (byteOf d n)) (by
        unfold Way.cells u8s
        rw [wr_succ, show 3 + (a % 16 + n) = a % 16 + n + 1 + 1 + 1 by omega]
        simp [List.map_set]) (by show (wr y.bytes (a % 16) d (n + 1)).length = 16; rw [wr_len]; exact hy)
      rw [setWay_setWay] at this
      exact this
    · exact ht3.setCell (p := ⟨C.g (C.ix a), j * 19 + (3 + (a % 16 + n)), none⟩) (.inl (.inr (.inr ⟨_, hlt, rfl⟩))) _
  · have hx := of_decide_eq_false hx
    obtain rfl : n = s := by omega
    show (∃ v, w3.cell? ((⟨C.g (C.ix a), j * 19, none⟩ : Addr).add 1) = some v) ∧ w3.frozen? ((⟨C.g (C.ix a), j * 19, none⟩ : Addr).add 1) = false ∧ _
    rw [add_none]
    have hcell := hc3.way (i := C.ix a) hlt hj3 1 (by omega)
    refine ⟨⟨_, hcell⟩, (hc3.set _ hlt).1.frozen _, ?_⟩
    rintro w5 rfl
    refine ⟨rfl, u, ?_, ht3.setCell (p := ⟨C.g (C.ix a), j * 19 + 1, none⟩) (.inl (.inr (.inr ⟨_, hlt, rfl⟩))) _⟩
    have := hc3.cell (i := C.ix a) hlt hj3 (y' := { line := y.line, state := 3, used := u, bytes := wr y.bytes (a % 16) d n }) 1 (by omega) (.int .i64 3) rfl (by show (wr y.bytes (a % 16) d n).length = 16; rw [wr_len]; exact hy)
    rw [setWay_setWay] at this
    exact this
end Go.Proofs.Ythjabcklmhaeoaa
