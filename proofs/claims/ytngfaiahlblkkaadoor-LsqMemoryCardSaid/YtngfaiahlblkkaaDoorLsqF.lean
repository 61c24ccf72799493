/- The queue, part F: where a load's bytes come from (plain); gather. No condition. -/
import Derived.Test.YtngfaiahlblkkaaDoorLsqE
namespace Go.Proofs.YtngfaiahlblkkaaDoor
open Go.RowKit Go.XHeap Go.Sx Go.Sep
set_option linter.unusedVariables false
set_option maxRecDepth 100000
variable {W w' : World} {b : Nat} {q v : PQ}

def coverP (a : Nat) (e : En) : Bool := e.store && (e.placed && decide (e.addr ≤ a ∧ a < e.addr + e.size))
/-- the youngest of the list (oldest first) that writes the byte -/
def srcOf (l : List En) (a : Nat) : Option En := l.reverse.find? (coverP a)
theorem src_app (l l2 : List En) (a : Nat) : srcOf (l ++ l2) a = (srcOf l2 a).or (srcOf l a) := by
  unfold srcOf
  rw [List.reverse_append, List.find?_append]
theorem src_cons (e : En) (l : List En) (a : Nat) : srcOf (e :: l) a = (srcOf l a).or (if coverP a e then some e else none) := by
  rw [show e :: l = [e] ++ l from rfl, src_app]
  congr 1
  unfold srcOf
  cases h : coverP a e <;> simp [h]
theorem src_mem {l : List En} {a : Nat} {e : En} (h : srcOf l a = some e) : e ∈ l ∧ coverP a e = true := by
  unfold srcOf at h
  exact ⟨by simpa using List.mem_of_find?_eq_some h, List.find?_some h⟩
abbrev Src := Nat → Option En
def srcs (l : List En) (A s : Nat) : Src := fun b => if b < s then srcOf l (A + b) else none
def frI : Option En → Int
  | some e => e.seq
  | none => -1
def bit (o : Option En) : Bool := o.isSome
def maskB (a b c d : Bool) : Nat := (if a then 1 else 0) + (if b then 2 else 0) + (if c then 4 else 0) + (if d then 8 else 0)
def maskF (F : Src) : Nat := maskB (F 0).isSome (F 1).isSome (F 2).isSome (F 3).isSome
def byteOf (a : Nat) : Option En → Nat
  | some e => e.data / 2 ^ (8 * (a - e.addr)) % 256
  | none => 0
def valF (A : Nat) (F : Src) : Nat := byteOf (A + 0) (F 0) + 256 * byteOf (A + 1) (F 1) + 65536 * byteOf (A + 2) (F 2) + 16777216 * byteOf (A + 3) (F 3)
def waitO : Option En → Bool
  | some e => !e.valued
  | none => false
def waitF (F : Src) : Bool := (List.range 4).any fun b => waitO (F b)
def frV (F : Src) : Array Value := #[.int .i64 (frI (F 0)), .int .i64 (frI (F 1)), .int .i64 (frI (F 2)), .int .i64 (frI (F 3))]
def foundV (A : Nat) (F : Src) : Array Value := #[.bool false, .int .i64 (maskF F : Nat), .int .u32 (valF A F : Nat)]
def waitV : Array Value := #[.bool true, .int .i64 0, .int .u32 0]
theorem byte_lt (a : Nat) (o : Option En) : byteOf a o < 256 := by
  cases o with
  | none => exact Nat.zero_lt_succ 255
  | some e => exact Nat.mod_lt _ (by decide)
theorem val_lt (A : Nat) (F : Src) : valF A F < 4294967296 := by
  have h0 := byte_lt (A + 0) (F 0)
  have h1 := byte_lt (A + 1) (F 1)
  have h2 := byte_lt (A + 2) (F 2)
  have h3 := byte_lt (A + 3) (F 3)
  unfold valF; omega
theorem mask_lt (F : Src) : maskF F < 16 := by
  unfold maskF maskB
  split <;> split <;> split <;> split <;> decide
def updF (F : Src) (c : Nat) (x : En) : Src := fun b => if b = c then some x else F b
theorem fr_upd (F : Src) {c : Nat} (h : c < 4) (x : En) : (frV F).setIfInBounds c (.int .i64 x.seq) = frV (updF F c x) := by
  match c, h with
  | 0, _ => rfl
  | 1, _ => rfl
  | 2, _ => rfl
  | 3, _ => rfl
theorem fr_get (F : Src) {c : Nat} (h : c < 4) : (frV F)[c]? = some (.int .i64 (frI (F c))) := by
  match c, h with
  | 0, _ => rfl
  | 1, _ => rfl
  | 2, _ => rfl
  | 3, _ => rfl
theorem mask_upd (F : Src) {c : Nat} (h : c < 4) (x : En) (hn : F c = none) : maskF F ||| 2 ^ c = maskF (updF F c x) := by
  have key : ∀ a b d e : Bool, maskB false b d e ||| 1 = maskB true b d e ∧ maskB a false d e ||| 2 = maskB a true d e ∧ maskB a b false e ||| 4 = maskB a b true e ∧ maskB a b d false ||| 8 = maskB a b d true := by decide
  match c, h with
  | 0, _ => show maskB (F 0).isSome _ _ _ ||| 1 = _; rw [hn]; exact (key false (F 1).isSome (F 2).isSome (F 3).isSome).1
  | 1, _ => show maskB _ (F 1).isSome _ _ ||| 2 = _; rw [hn]; exact (key (F 0).isSome false (F 2).isSome (F 3).isSome).2.1
  | 2, _ => show maskB _ _ (F 2).isSome _ ||| 4 = _; rw [hn]; exact (key (F 0).isSome (F 1).isSome false (F 3).isSome).2.2.1
  | 3, _ => show maskB _ _ _ (F 3).isSome ||| 8 = _; rw [hn]; exact (key (F 0).isSome (F 1).isSome (F 2).isSome false).2.2.2
theorem or_mid {i w h lo y : Nat} (hl : lo < 2 ^ i) (hy : y < 2 ^ w) : (2 ^ (i + w) * h + lo) ||| (2 ^ i * y) = 2 ^ (i + w) * h + (2 ^ i * y + lo) := by
  have hp : 2 ^ (i + w) = 2 ^ i * 2 ^ w := Nat.pow_add _ _ _
  have hlt : 2 ^ i * y + lo < 2 ^ (i + w) := by
    rw [hp]
    have : 2 ^ i * (y + 1) ≤ 2 ^ i * 2 ^ w := Nat.mul_le_mul_left _ hy
    rw [Nat.mul_add] at this
    omega
  have hlo : lo < 2 ^ (i + w) := by omega
  rw [Nat.two_pow_add_eq_or_of_lt hlo, Nat.two_pow_add_eq_or_of_lt hlt, Nat.or_assoc]
  congr 1
  rw [Nat.or_comm, ← Nat.two_pow_add_eq_or_of_lt hl]
theorem val_upd (A : Nat) (F : Src) {c : Nat} (h : c < 4) (x : En) (hn : F c = none) : valF A F ||| (byteOf (A + c) (some x) * 2 ^ (8 * c)) = valF A (updF F c x) := by
  have h0 := byte_lt (A + 0) (F 0)
  have h1 := byte_lt (A + 1) (F 1)
  have h2 := byte_lt (A + 2) (F 2)
  have h3 := byte_lt (A + 3) (F 3)
  have hx := byte_lt (A + c) (some x)
  have z : ∀ a, byteOf a none = 0 := fun _ => rfl
  match c, h with
  | 0, _ =>
    have := or_mid (i := 0) (w := 8) (h := byteOf (A + 1) (F 1) + 256 * byteOf (A + 2) (F 2) + 65536 * byteOf (A + 3) (F 3)) (lo := 0) (y := byteOf (A + 0) (some x)) (by decide) hx
    unfold valF
    show _ ||| _ = byteOf (A + 0) (some x) + 256 * byteOf (A + 1) (F 1) + 65536 * byteOf (A + 2) (F 2) + 16777216 * byteOf (A + 3) (F 3)
    rw [hn, z]
    simp only [Nat.reduceAdd, Nat.reducePow, Nat.mul_zero, Nat.mul_one, Nat.one_mul, Nat.add_zero] at this ⊢
    rw [show 0 + 256 * byteOf (A + 1) (F 1) + 65536 * byteOf (A + 2) (F 2) + 16777216 * byteOf (A + 3) (F 3) = 256 * (byteOf (A + 1) (F 1) + 256 * byteOf (A + 2) (F 2) + 65536 * byteOf (A + 3) (F 3)) by omega, this]
    omega
  | 1, _ =>
    have := or_mid (i := 8) (w := 8) (h := byteOf (A + 2) (F 2) + 256 * byteOf (A + 3) (F 3)) (lo := byteOf (A + 0) (F 0)) (y := byteOf (A + 1) (some x)) h0 hx
    unfold valF
    show _ ||| _ = byteOf (A + 0) (F 0) + 256 * byteOf (A + 1) (some x) + 65536 * byteOf (A + 2) (F 2) + 16777216 * byteOf (A + 3) (F 3)
    rw [hn, z]
    simp only [Nat.reduceAdd, Nat.reduceMul, Nat.reducePow, Nat.mul_zero, Nat.add_zero] at this h0 ⊢
    rw [show byteOf A (F 0) + 65536 * byteOf (A + 2) (F 2) + 16777216 * byteOf (A + 3) (F 3) = 65536 * (byteOf (A + 2) (F 2) + 256 * byteOf (A + 3) (F 3)) + byteOf A (F 0) by omega, Nat.mul_comm _ 256, this]
    omega
  | 2, _ =>
    have := or_mid (i := 16) (w := 8) (h := byteOf (A + 3) (F 3)) (lo := byteOf (A + 0) (F 0) + 256 * byteOf (A + 1) (F 1)) (y := byteOf (A + 2) (some x)) (by show _ < 65536; omega) hx
    unfold valF
    show _ ||| _ = byteOf (A + 0) (F 0) + 256 * byteOf (A + 1) (F 1) + 65536 * byteOf (A + 2) (some x) + 16777216 * byteOf (A + 3) (F 3)
    rw [hn, z]
    simp only [Nat.reduceAdd, Nat.reduceMul, Nat.reducePow, Nat.mul_zero, Nat.add_zero] at this ⊢
    rw [show byteOf A (F 0) + 256 * byteOf (A + 1) (F 1) + 16777216 * byteOf (A + 3) (F 3) = 16777216 * byteOf (A + 3) (F 3) + (byteOf A (F 0) + 256 * byteOf (A + 1) (F 1)) by omega, Nat.mul_comm _ 65536, this]
    omega
  | 3, _ =>
    have := or_mid (i := 24) (w := 8) (h := 0) (lo := byteOf (A + 0) (F 0) + 256 * byteOf (A + 1) (F 1) + 65536 * byteOf (A + 2) (F 2)) (y := byteOf (A + 3) (some x)) (by show _ < 16777216; omega) hx
    unfold valF
    show _ ||| _ = byteOf (A + 0) (F 0) + 256 * byteOf (A + 1) (F 1) + 65536 * byteOf (A + 2) (F 2) + 16777216 * byteOf (A + 3) (some x)
    rw [hn, z]
    simp only [Nat.reduceAdd, Nat.reduceMul, Nat.reducePow, Nat.mul_zero, Nat.add_zero, Nat.zero_add] at this ⊢
    rw [Nat.mul_comm _ 16777216, this]
    omega
end Go.Proofs.YtngfaiahlblkkaaDoor
