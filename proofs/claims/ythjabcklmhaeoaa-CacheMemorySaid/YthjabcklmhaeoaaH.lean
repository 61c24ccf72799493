/- Part H of the proofs over 'cache': the law 'CacheMemory': memory behind a cache of any shape reads as memory. No condition. -/
import Derived.Test.YthjabcklmhaeoaaG
namespace Go.Proofs.Ythjabcklmhaeoaa
open Go.RowKit Go.XHeap Go.Sx
set_option linter.unusedVariables false
set_option maxRecDepth 4000

theorem made_mem : madeCells #[Value.int IntKind.u8 0] 1024 = (u8s (List.replicate 1024 0)).toArray := by
  apply Array.toList_inj.1
  rw [toList_madeCells_one]
  simp [u8s]
theorem shift_pk (P : Nat) (h : P < 5) : IntKind.wrap .i64 (1 * 2 ^ min ((P : Int).toNat) (IntKind.bits .i64)) = ((2 ^ P : Nat) : Int) := by
  have key : ∀ x : Fin 5, IntKind.wrap .i64 (1 * 2 ^ min (((x.1 : Nat) : Int).toNat) (IntKind.bits .i64)) = ((2 ^ x.1 : Nat) : Int) := by decide +kernel
  exact key ⟨P, h⟩
theorem pow_pk (P : Nat) (h : P < 5) : 2 ^ P = 1 ∨ 2 ^ P = 2 ∨ 2 ^ P = 4 ∨ 2 ^ P = 8 ∨ 2 ^ P = 16 := by
  have key : ∀ x : Fin 5, 2 ^ x.1 = 1 ∨ 2 ^ x.1 = 2 ∨ 2 ^ x.1 = 4 ∨ 2 ^ x.1 = 8 ∨ 2 ^ x.1 = 16 := by decide +kernel
  exact key ⟨P, h⟩
theorem seg_part (flat : List Int) {a s : Nat} (h : a % 16 + s ≤ 16) : ((seg flat (a / 16)).drop (a % 16)).take s = (flat.drop a).take s := by
  apply List.ext_getElem?
  intro i
  by_cases hi : i < s
  · rw [List.getElem?_take_of_lt hi, List.getElem?_take_of_lt hi, List.getElem?_drop, List.getElem?_drop, seg_get _ _ _ (by omega)]
    congr 1; omega
  · rw [List.getElem?_eq_none (by simp; omega), List.getElem?_eq_none (by simp; omega)]
theorem or_low (v c : Nat) (hv : v < 16777216) (hc : c < 256) :
    IntKind.wrap .u32 (((BitVec.ofInt (IntKind.bits .u32) (IntKind.wrap .u32 ((v : Int) * 2 ^ min 8 (IntKind.bits .u32))) ||| BitVec.ofInt (IntKind.bits .u32) (IntKind.wrap .u32 (c : Int))).toNat : Nat) : Int) = (c : Int) + 256 * (v : Int) := by
  have e1 : ((v : Int) * 2 ^ min 8 (IntKind.bits .u32)) = ((v * 2 ^ 8 : Nat) : Int) := by simp [IntKind.bits]
  rw [e1, w32 (e := ((v * 2 ^ 8 : Nat) : Int)) (by omega) (by omega), w32 (e := (c : Int)) (by omega) (by omega)]
  have e2 : (BitVec.ofInt (IntKind.bits .u32) ((v * 2 ^ 8 : Nat) : Int) ||| BitVec.ofInt (IntKind.bits .u32) (c : Int)).toNat = v * 2 ^ 8 ||| c := by
    rw [BitVec.toNat_or, BitVec.ofInt_natCast, BitVec.ofInt_natCast, BitVec.toNat_ofNat, BitVec.toNat_ofNat]
    rw [Nat.mod_eq_of_lt (show v * 2 ^ 8 < 2 ^ IntKind.bits .u32 by show _ < 2 ^ 32; omega), Nat.mod_eq_of_lt (show c < 2 ^ IntKind.bits .u32 by show _ < 2 ^ 32; omega)]
  rw [e2]
  have e3 : v * 2 ^ 8 ||| c = 2 ^ 8 * v + c := by
    rw [Nat.mul_comm v, ← Nat.two_pow_add_eq_or_of_lt (show c < 2 ^ 8 by omega)]
  rw [e3, w32 (by omega) (by omega)]
  omega
/-- the cache and the two memories in the heap -/
structure LS (W w : World) (b k k2 : Nat) (C : CS) (mem flat : List Int) : Prop where
  cache : CacheAt w b C
  fl : Blk w k (u8s flat).toArray 5
  mm : Blk w k2 (u8s mem).toArray 5
  touch : XTouch (fun _ => False) W w
  own : ∀ q, C.own b q → W.heap.size ≤ q ∧ q ≠ k ∧ q ≠ k2
  ne : k ≠ k2
  kb : W.heap.size ≤ k ∧ W.heap.size ≤ k2
variable {W w w' : World} {b k k2 : Nat} {C C' : CS} {mem flat : List Int}
theorem LS.keep {T : Nat → Prop} (h : LS W w b k k2 C mem flat) (ht : XTouch T w w') (hn : ∀ q, T q → w.heap.size ≤ q) : LS W w' b k k2 C mem flat := by
  refine ⟨h.cache.keep ht (fun q hq e => ?_), h.fl.keep ht (fun e => ?_), h.mm.keep ht (fun e => ?_), h.touch.trans ht (fun q hq e => ?_), h.own, h.ne, h.kb⟩
  · have := h.cache.lt q hq; have := hn q e; omega
  · have := h.fl.lt; have := hn _ e; omega
  · have := h.mm.lt; have := hn _ e; omega
  · have := h.touch.size; have := hn _ e; omega
theorem LS.drewN (h : LS W w b k k2 C mem flat) (n : Nat) : LS W (w.drewN n) b k k2 C mem flat := h.keep ((XTouch.refl (fun _ => False) w).drewN n) (fun _ e => e.elim)
theorem LS.drew (h : LS W w b k k2 C mem flat) : LS W w.drew b k k2 C mem flat := h.keep ((XTouch.refl (fun _ => False) w).drew) (fun _ e => e.elim)
theorem LS.alloc (h : LS W w b k k2 C mem flat) (o : Obj) : LS W (w.alloc o) b k k2 C mem flat := h.keep ((XTouch.refl (fun _ => False) w).alloc o) (fun _ e => e.elim)
/-- the cache changed, nothing else -/
theorem LS.cached (h : LS W w b k k2 C mem flat) (hc : CacheAt w' b C') (ht : XTouch (C.own b) w w') (ho : ∀ q, C'.own b q → C.own b q) : LS W w' b k k2 C' mem flat := by
  refine ⟨hc, h.fl.keep ht (fun e => (h.own _ e).2.1 rfl), h.mm.keep ht (fun e => (h.own _ e).2.2 rfl), h.touch.trans ht (fun q hq e => ?_), fun q hq => h.own q (ho q hq), h.ne, h.kb⟩
  have := (h.own _ e).1; omega
/-- the flat memory changed -/
theorem LS.flat_ (h : LS W w b k k2 C mem flat) {flat' : List Int} (hb : Blk w' k (u8s flat').toArray 5) (ht : XTouch (fun q => q = k) w w') : LS W w' b k k2 C mem flat' := by
  refine ⟨h.cache.keep ht (fun q hq e => (h.own q hq).2.1 e), hb, h.mm.keep ht (fun e => h.ne e.symm), h.touch.trans ht (fun q hq e => ?_), h.own, h.ne, h.kb⟩
  have := h.kb.1; omega
/-- the memory behind the cache changed -/
theorem LS.mem_ (h : LS W w b k k2 C mem flat) {mem' : List Int} (hb : Blk w' k2 (u8s mem').toArray 5) (ht : XTouch (fun q => q = k2) w w') : LS W w' b k k2 C mem' flat := by
  refine ⟨h.cache.keep ht (fun q hq e => (h.own q hq).2.2 e), h.fl.keep ht (fun e => h.ne e), hb, h.touch.trans ht (fun q hq e => ?_), h.own, h.ne, h.kb⟩
  have := h.kb.2; omega
theorem ov_splice {l bs : List Int} (hb : bs.length = 16) (L : Nat) : splice (u8s l).toArray (L * 16) (u8s bs) = (u8s (ov l L bs)).toArray := by
  unfold splice ov u8s
  simp [hb]
/-- a way that holds the line is found -/
theorem find_there {l : List Way} {L j : Nat} {y : Way} (hj : l[j]? = some y) (hs : y.state ≠ 0) (hl : y.line = (L : Int)) : ∃ j' y', find? l L = some j' ∧ l[j']? = some y' := by
  cases hf : find? l L with
  | none => exact absurd hl (find_none.1 hf j y hj hs)
  | some j' =>
    obtain ⟨y', h1, -⟩ := find_some hf
    exact ⟨j', y', rfl, h1⟩
theorem u8s_get {l : List Int} (i : Nat) : (u8s l).toArray[i]? = (l[i]?).map (.int .u8) := by simp [u8s]
end Go.Proofs.Ythjabcklmhaeoaa
