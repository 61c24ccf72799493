/- Part A of the proofs over 'cache': the cache in memory, and what its small functions compute. Conditions: addresses below 1024 where an address is masked. -/
import Derived.Test.YthjabcklmhaeoaaVc
import Derived.Test.YthjabcklmhaeoaaSxH
namespace Go.Proofs.Ythjabcklmhaeoaa
open Go.RowKit Go.XHeap Go.Sx
set_option linter.unusedVariables false

structure Way where
  line : Int
  state : Int
  used : Int
  bytes : List Int
  deriving Inhabited
def u8s (l : List Int) : List Value := l.map (.int .u8)
def Way.cells (y : Way) : List Value := .int .u32 y.line :: .int .i64 y.state :: .int .i64 y.used :: u8s y.bytes
def flatW (l : List Way) : List Value := l.flatMap Way.cells
/-- every way has sixteen bytes -/
def WaysOk (l : List Way) : Prop := ∀ y ∈ l, y.bytes.length = 16
theorem Way.cells_len {y : Way} (h : y.bytes.length = 16) : y.cells.length = 19 := by simp [Way.cells, u8s, h]
theorem flatW_len : ∀ {l : List Way}, WaysOk l → (flatW l).length = l.length * 19
  | [], _ => rfl
  | y :: l, h => by
    have h1 := Way.cells_len (h y (.head _))
    have h2 := flatW_len (l := l) (fun z hz => h z (.tail _ hz))
    unfold flatW at h2 ⊢
    rw [List.flatMap_cons, List.length_append, h1, h2, List.length_cons]
    omega
theorem flatW_get : ∀ {l : List Way}, WaysOk l → ∀ (j i : Nat) (y : Way), l[j]? = some y → i < 19 → (flatW l)[j * 19 + i]? = y.cells[i]?
  | [], _, j, i, y, hj, _ => by simp at hj
  | z :: l, h, j, i, y, hj, hi => by
    have h1 := Way.cells_len (h z (.head _))
    unfold flatW
    rw [List.flatMap_cons]
    cases j with
    | zero =>
      simp at hj; subst hj
      rw [Nat.zero_mul, Nat.zero_add, List.getElem?_append_left (by omega)]
    | succ j =>
      rw [List.getElem?_append_right (by rw [h1, Nat.succ_mul]; omega), h1]
      have := flatW_get (l := l) (fun z hz => h z (.tail _ hz)) j i y (by simpa using hj) hi
      unfold flatW at this
      rw [← this]
      congr 1
      rw [Nat.succ_mul]; omega
theorem flatW_set : ∀ {l : List Way}, WaysOk l → ∀ (j : Nat) (y : Way), j < l.length → y.bytes.length = 16 → splice (flatW l).toArray (j * 19) y.cells = (flatW (l.set j y)).toArray := by
  intro l h j y hj hy
  apply Array.toList_inj.1
  have hl := flatW_len h
  have hy1 := Way.cells_len hy
  have key : ∀ (l : List Way), WaysOk l → ∀ j, j < l.length → (flatW l).take (j * 19) ++ y.cells ++ (flatW l).drop (j * 19 + 19) = flatW (l.set j y) := by
    intro l
    induction l with
    | nil => intro _ j hj; simp at hj
    | cons z l ih =>
      intro h j hj
      have h1 := Way.cells_len (h z (.head _))
      cases j with
      | zero =>
        unfold flatW
        simp only [Nat.zero_mul, List.take_zero, List.nil_append, Nat.zero_add, List.set_cons_zero, List.flatMap_cons]
        rw [List.drop_append_of_le_length (by omega), List.drop_of_length_le (by omega), List.nil_append]
      | succ j =>
        have := ih (fun z hz => h z (.tail _ hz)) j (by simpa using hj)
        unfold flatW at this ⊢
        simp only [List.set_cons_succ, List.flatMap_cons]
        rw [← this, Nat.succ_mul, List.take_append, List.drop_append]
        rw [List.take_of_length_le (by omega), h1, show j * 19 + 19 - 19 = j * 19 by omega, show j * 19 + 19 + 19 - 19 = j * 19 + 19 by omega, List.drop_of_length_le (show z.cells.length ≤ j * 19 + 19 + 19 by omega)]
        simp
  unfold splice
  rw [hy1]
  exact key l h j hj

/-- a cache: S sets of N ways; where they lie -/
structure CS where
  S : Nat
  N : Nat
  clock : Int
  bs : Nat
  bo : Nat
  g : Nat → Nat
  sets : Nat → List Way
def CS.own (b : Nat) (C : CS) (k : Nat) : Prop := k = b ∨ k = C.bs ∨ ∃ i, i < C.S ∧ k = C.g i
structure CacheAt (w : World) (b : Nat) (C : CS) : Prop where
  pos : C.S = 1 ∨ C.S = 2 ∨ C.S = 4 ∨ C.S = 8 ∨ C.S = 16
  npos : 1 ≤ C.N ∧ C.N ≤ 4
  root : ∃ cap, Blk w b #[.slice (some ⟨C.bs, C.bo, none⟩) C.S cap, .int .i64 C.clock] 51
  row : ∃ cur, Blk w C.bs cur 52 ∧ ∀ i, i < C.S → cur[C.bo + i]? = some (.slice (some ⟨C.g i, 0, none⟩) C.N C.N)
  set : ∀ i, i < C.S → Blk w (C.g i) (flatW (C.sets i)).toArray 56 ∧ (C.sets i).length = C.N ∧ WaysOk (C.sets i)
  d1 : b ≠ C.bs
  d2 : ∀ i, i < C.S → C.g i ≠ b ∧ C.g i ≠ C.bs
  d3 : ∀ i j, i < C.S → j < C.S → C.g i = C.g j → i = j
theorem CacheAt.keep {w w' : World} {b : Nat} {C : CS} {T : Nat → Prop} (h : CacheAt w b C) (ht : XTouch T w w') (hn : ∀ k, C.own b k → ¬ T k) : CacheAt w' b C := by
  obtain ⟨cap, hr⟩ := h.root
  obtain ⟨cur, hc, hcur⟩ := h.row
  exact ⟨h.pos, h.npos, ⟨cap, hr.keep ht (hn _ (.inl rfl))⟩, ⟨cur, hc.keep ht (hn _ (.inr (.inl rfl))), hcur⟩, fun i hi => ⟨(h.set i hi).1.keep ht (hn _ (.inr (.inr ⟨i, hi, rfl⟩))), (h.set i hi).2⟩, h.d1, h.d2, h.d3⟩
theorem CacheAt.drewN {w : World} {b : Nat} {C : CS} (h : CacheAt w b C) (n : Nat) : CacheAt (w.drewN n) b C := h.keep ((XTouch.refl (fun _ => False) w).drewN n) (fun _ _ e => e)
theorem CacheAt.lt {w : World} {b : Nat} {C : CS} (h : CacheAt w b C) : ∀ k, C.own b k → k < w.heap.size := by
  rintro k (rfl | rfl | ⟨i, hi, rfl⟩)
  · obtain ⟨cap, hr⟩ := h.root; exact hr.lt
  · obtain ⟨cur, hc, -⟩ := h.row; exact hc.lt
  · exact (h.set i hi).1.lt
/-- the set of an address -/
def CS.ix (C : CS) (a : Nat) : Nat := a / 16 % C.S
theorem CS.ix_lt {w : World} {b : Nat} {C : CS} (h : CacheAt w b C) (a : Nat) : C.ix a < C.S := Nat.mod_lt _ (by rcases h.pos with e | e | e | e | e <;> omega)

/-! ### pick -/
def pk (c n : Int) : Int := if c < 0 then (-(c + 1)).tmod n else c.tmod n
theorem pk_bound (c n : Int) (hn : 0 < n) : 0 ≤ pk c n ∧ pk c n < n := by
  unfold pk
  split
  · exact ⟨Int.tmod_nonneg _ (by omega), Int.tmod_lt_of_pos _ hn⟩
  · exact ⟨Int.tmod_nonneg _ (by omega), Int.tmod_lt_of_pos _ hn⟩
theorem pick_any (W : World) (c n : Int) (h0 : -9223372036854775808 ≤ c) (hn : 0 < n) : Calls Try.prog 5 #[.int .i64 c, .int .i64 n] W fun e w => e = .returned (.int .i64 (pk c n)) ∧ w = W := by
  refine vc5 c n (split_of (fun h => ?_) (fun h => ?_))
  · have hc : c < 0 := of_decide_eq_true h
    rintro z rfl
    refine ⟨by omega, ?_⟩
    rintro z2 rfl
    rw [w64 (e := c + 1) (by omega) (by omega), w64 (e := 0 - (c + 1)) (by omega) (by omega)]
    refine ⟨?_, rfl⟩
    unfold pk
    rw [if_pos hc, Int.zero_sub]
  · have hc : ¬ c < 0 := of_decide_eq_false h
    refine ⟨by omega, ?_⟩
    rintro z3 rfl
    refine ⟨?_, rfl⟩
    unfold pk
    rw [if_neg hc]

/-! ### set -/
theorem and_mask (x : Nat) (hx : x < 64) (S : Nat) (hS : S = 1 ∨ S = 2 ∨ S = 4 ∨ S = 8 ∨ S = 16) : IntKind.wrap .i64 ((BitVec.ofInt (IntKind.bits .i64) (x : Int) &&& BitVec.ofInt (IntKind.bits .i64) ((S : Int) - 1)).toNat : Int) = ((x % S : Nat) : Int) := by
  have key : ∀ S ∈ [1, 2, 4, 8, 16], ∀ x : Fin 64, IntKind.wrap .i64 ((BitVec.ofInt (IntKind.bits .i64) ((x.1 : Nat) : Int) &&& BitVec.ofInt (IntKind.bits .i64) (((S : Nat) : Int) - 1)).toNat : Int) = ((x.1 % S : Nat) : Int) := by decide +kernel
  exact key S (by rcases hS with rfl | rfl | rfl | rfl | rfl <;> simp) ⟨x, hx⟩
theorem set_any {W : World} {b : Nat} {C : CS} (h : CacheAt W b C) (a : Nat) (ha : a < 1024) :
    Calls Try.prog 11 #[.pointer (some ⟨b, 0, none⟩), .int .u32 a] W fun e w => e = .returned (.slice (some ⟨C.g (C.ix a), 0, none⟩) C.N C.N) ∧ ∃ n, w = W.drewN n := by
  obtain ⟨cap, hr⟩ := h.root
  obtain ⟨cur, hc, hcur⟩ := h.row
  have hlt := CS.ix_lt h a
  have c0 : W.cell? ⟨b, 0, none⟩ = some (.slice (some ⟨C.bs, C.bo, none⟩) C.S cap) := hr.cell' rfl
  refine vc11 b 0 a ⟨_, _, _, c0, by decide, ?_⟩
  rintro z rfl z2 rfl
  refine ⟨_, _, _, c0, ?_⟩
  rintro z3 rfl z4 hz4
  have e1 : Int.tdiv (a : Int) 16 = ((a / 16 : Nat) : Int) := by rw [Int.tdiv_eq_ediv_of_nonneg (by omega)]; omega
  have hS : C.S ≤ 16 ∧ 1 ≤ C.S := by rcases h.pos with e | e | e | e | e <;> omega
  rw [e1, w32 (e := ((a / 16 : Nat) : Int)) (by omega) (by omega), w64 (e := ((a / 16 : Nat) : Int)) (by omega) (by omega), w64 (e := (C.S : Int) - 1) (by omega) (by omega), and_mask _ (by omega) _ h.pos] at hz4
  have hz4' : z4 = (C.ix a : Int) := hz4
  subst hz4'
  refine ⟨⟨by omega, by omega⟩, some ⟨C.g (C.ix a), 0, none⟩, C.N, C.N, ?_, ?_⟩
  · rw [show C.bo + ((C.ix a : Nat) : Int).toNat * 1 = C.bo + C.ix a by omega]
    exact hc.cell' (hcur _ hlt)
  · rintro w n rfl
    exact ⟨rfl, n, rfl⟩

/-! ### find -/
def there? (L : Nat) (y : Way) : Bool := y.state != 0 && y.line == (L : Int)
def find? (l : List Way) (L : Nat) : Option Nat := l.findIdx? (there? L)
def ptrOf (g : Nat) : Option Nat → Option Addr
  | some j => some ⟨g, j * 19, none⟩
  | none => none
theorem low_mask (a : Nat) (ha : a < 1024) : IntKind.wrap .u32 ((BitVec.ofInt (IntKind.bits .u32) (a : Int) &&& ~~~ BitVec.ofInt (IntKind.bits .u32) 15).toNat : Int) = ((a / 16 * 16 : Nat) : Int) := by
  have key : ∀ x : Fin 1024, IntKind.wrap .u32 ((BitVec.ofInt (IntKind.bits .u32) ((x.1 : Nat) : Int) &&& ~~~ BitVec.ofInt (IntKind.bits .u32) 15).toNat : Int) = ((x.1 / 16 * 16 : Nat) : Int) := by decide +kernel
  exact key ⟨a, ha⟩
theorem find_any {W : World} {b : Nat} {C : CS} (h : CacheAt W b C) (a : Nat) (ha : a < 1024) :
    Calls Try.prog 10 #[.pointer (some ⟨b, 0, none⟩), .int .u32 a] W fun e w => e = .returned (.pointer (ptrOf (C.g (C.ix a)) (find? (C.sets (C.ix a)) (a / 16 * 16)))) ∧ ∃ n, w = W.drewN n := by
  have hlt := CS.ix_lt h a
  obtain ⟨hb, hlen, hok⟩ := h.set _ hlt
  refine vc10 b 0 a ((set_any h a ha).mono ?_)
  rintro e w2 ⟨rfl, n, rfl⟩
  refine ⟨_, _, _, rfl, ?_⟩
  refine ⟨fun x w => ∃ j : Nat, x = j ∧ j ≤ C.N ∧ w = W.drewN n ∧ ∀ y ∈ (C.sets (C.ix a)).take j, there? (a / 16 * 16) y = false, fun x _ => (C.N - x.toNat), ⟨0, rfl, by omega, rfl, by simp⟩, fun _ => ?_⟩
  rintro x w3 ⟨j, rfl, hj, rfl, hall⟩
  refine split_of (fun hx => ?_) (fun hx => ?_)
  · have hx := of_decide_eq_true hx
    have hjl : j < (C.sets (C.ix a)).length := by omega
    obtain ⟨y, hy⟩ : ∃ y, (C.sets (C.ix a))[j]? = some y := ⟨_, List.getElem?_eq_getElem hjl⟩
    have cell : ∀ i, i < 19 → (W.drewN n).cell? ⟨C.g (C.ix a), 0 + (j : Int).toNat * 19 + i, none⟩ = y.cells[i]? := by
      intro i hi
      have := (hb.drewN n).cell (j * 19 + i)
      rw [show 0 + (j : Int).toNat * 19 + i = j * 19 + i by omega, this, List.getElem?_toArray, flatW_get hok j i y hy hi]
    refine ⟨⟨by omega, by omega⟩, y.state, cell 1 (by omega), ?_⟩
    have step : there? (a / 16 * 16) y = false → ∀ z : Int, z = IntKind.wrap .i64 ((j : Int) + 1) → (∃ j' : Nat, z = j' ∧ j' ≤ C.N ∧ W.drewN n = W.drewN n ∧ ∀ y ∈ (C.sets (C.ix a)).take j', there? (a / 16 * 16) y = false) ∧ C.N - z.toNat < C.N - (j : Int).toNat := by
      rintro hn z rfl
      have hN := h.npos
      rw [w64 (by omega) (by omega)]
      refine ⟨⟨j + 1, by omega, by omega, rfl, ?_⟩, by omega⟩
      intro q hq
      rw [List.take_succ_eq_append_getElem hjl, List.mem_append] at hq
      rcases hq with hq | hq
      · exact hall q hq
      · have : y = (C.sets (C.ix a))[j] := by rw [List.getElem?_eq_getElem hjl] at hy; exact (Option.some.inj hy).symm
        rw [List.mem_singleton] at hq
        rw [hq, ← this]; exact hn
    refine split_of (fun h0 => ?_) (fun h0 => ?_)
    · refine ⟨⟨by omega, by omega⟩, y.line, cell 0 (by omega), ?_⟩
      rintro z3 hz3
      rw [low_mask a ha] at hz3
      subst hz3
      refine split_of (fun h1 => ?_) (fun h1 => ?_)
      · refine ⟨⟨by omega, by omega⟩, ?_, n, rfl⟩
        have hf : find? (C.sets (C.ix a)) (a / 16 * 16) = some j := by
          unfold find?
          rw [List.findIdx?_eq_some_iff_getElem]
          refine ⟨hjl, ?_, fun q hq => ?_⟩
          · have : (C.sets (C.ix a))[j] = y := by rw [List.getElem?_eq_getElem hjl] at hy; exact Option.some.inj hy
            rw [this]
            unfold there?
            rw [h0, h1]; rfl
          · have := hall (C.sets (C.ix a))[q] (by
              rw [List.mem_take_iff_getElem]
              exact ⟨q, by omega, rfl⟩)
            rw [this]; exact Bool.false_ne_true
        rw [hf]
        unfold ptrOf
        rw [show 0 + (j : Int).toNat * 19 = j * 19 by omega]
      · exact step (by unfold there?; rw [h0, h1]; rfl)
    · exact step (by unfold there?; rw [h0]; rfl)
  · have hx := of_decide_eq_false hx
    refine ⟨?_, n, rfl⟩
    have hf : find? (C.sets (C.ix a)) (a / 16 * 16) = none := by
      unfold find?
      rw [List.findIdx?_eq_none_iff]
      intro y hy
      exact hall y (by rwa [List.take_of_length_le (by omega)])
    rw [hf]
    rfl
end Go.Proofs.Ythjabcklmhaeoaa
