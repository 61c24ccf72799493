/- The cache, part A: what stands in memory; set, find, State, touch, part. No condition. -/
import Derived.Test.YthacioiefgabbaaGreatDoorCacheVc
import Derived.Test.YthacioiefgabbaaGreatDoorBits
namespace Go.Proofs.YthacioiefgabbaaGreatDoor.cbus
open Go.RowKit Go.XHeap Go.Sx Go.Sep
set_option linter.unusedVariables false
set_option maxRecDepth 100000

structure Way where
  line : Nat
  state : Nat
  used : Nat
  bytes : List Nat
deriving Inhabited
def u8n (l : List Nat) : List Value := l.map fun x => .int .u8 (x : Nat)
def Way.cells (y : Way) : List Value := .int .u32 y.line :: .int .i64 y.state :: .int .i64 y.used :: u8n y.bytes
structure Way.Ok (y : Way) : Prop where
  line : y.line < 4294967296
  state : y.state ≤ 3
  len : y.bytes.length = 16
  byte : ∀ x ∈ y.bytes, x < 256
structure CS where
  S : Nat
  bs : Nat
  bo : Nat
  cap : Nat
  gs : List Nat
  N : Nat
  sets : List (List Way)
  clock : Nat
def CS.ix (C : CS) (a : Nat) : Nat := a / 16 % C.S
structure CS.Ok (C : CS) : Prop where
  pow : ∃ s, s ≤ 4 ∧ C.S = 2 ^ s
  gl : C.gs.length = C.S
  sl : C.sets.length = C.S
  n0 : 1 ≤ C.N
  n1 : C.N ≤ 4
  len : ∀ s ∈ C.sets, s.length = C.N
  way : ∀ s ∈ C.sets, ∀ y ∈ s, y.Ok
  clk : C.clock < 4611686018427387904
def setA (g : Nat) (s : List Way) : Asn := blk g (rows Way.cells s) 291
def setsA (gs : List Nat) (sets : List (List Way)) : List Asn := List.zipWith setA gs sets
def CS.rowL (C : CS) : List Value := C.gs.map fun g => .slice (some ⟨g, 0, none⟩) C.N C.N
def CS.root (C : CS) : Array Value := #[.slice (some ⟨C.bs, C.bo, none⟩) C.S C.cap, .int .i64 C.clock]
def CS.pieces (b : Nat) (C : CS) : List Asn := [blk b C.root 196, sl 197 1 (.slice (some ⟨C.bs, C.bo, none⟩) C.S C.cap) C.S C.rowL, all (setsA C.gs C.sets)]
def cacheA (b : Nat) (C : CS) : Asn := all (C.pieces b)
theorem ways_len {C : CS} (h : C.Ok) {s : List Way} (hs : s ∈ C.sets) : ∀ y ∈ s, (Way.cells y).length = 19 := fun y hy => by
  have := (h.way s hs y hy).len
  simp [Way.cells, u8n, this]
theorem CS.Ok.pos {C : CS} (h : C.Ok) : 1 ≤ C.S ∧ C.S ≤ 16 := by
  obtain ⟨s, h1, h2⟩ := h.pow
  rw [h2]
  exact ⟨Nat.one_le_two_pow, Nat.pow_le_pow_right (n := 2) (by decide) h1⟩
theorem CS.Ok.ix_lt {C : CS} (h : C.Ok) (a : Nat) : C.ix a < C.S := Nat.mod_lt _ h.pos.1
/-- set i and its block -/
def CS.set_ (C : CS) (i : Nat) : List Way := C.sets.getD i []
def CS.g (C : CS) (i : Nat) : Nat := C.gs.getD i 0
theorem CS.set_at {C : CS} (h : C.Ok) {i : Nat} (hi : i < C.S) : C.sets[i]? = some (C.set_ i) := by
  unfold CS.set_; rw [List.getD_eq_getElem?_getD, List.getElem?_eq_getElem (by rw [h.sl]; exact hi)]; rfl
theorem CS.g_at {C : CS} (h : C.Ok) {i : Nat} (hi : i < C.S) : C.gs[i]? = some (C.g i) := by
  unfold CS.g; rw [List.getD_eq_getElem?_getD, List.getElem?_eq_getElem (by rw [h.gl]; exact hi)]; rfl
theorem CS.set_mem {C : CS} (h : C.Ok) {i : Nat} (hi : i < C.S) : C.set_ i ∈ C.sets := List.mem_of_getElem? (CS.set_at h hi)
theorem setsA_at {C : CS} (h : C.Ok) {i : Nat} (hi : i < C.S) : (setsA C.gs C.sets)[i]? = some (setA (C.g i) (C.set_ i)) := by
  unfold setsA
  rw [List.getElem?_zipWith, CS.g_at h hi, CS.set_at h hi]
theorem setsA_set (gs : List Nat) (sets : List (List Way)) (i : Nat) (g : Nat) (hg : gs[i]? = some g) (s : List Way) : (setsA gs sets).set i (setA g s) = setsA gs (sets.set i s) := by
  unfold setsA
  apply List.ext_getElem?
  intro j
  rw [List.getElem?_set, List.getElem?_zipWith, List.getElem?_zipWith, List.getElem?_set]
  by_cases e : i = j
  · subst e
    rw [if_pos rfl, if_pos rfl, hg]
    by_cases hl : i < sets.length
    · have hgl := (List.getElem?_eq_some_iff.1 hg).1
      rw [if_pos hl, if_pos (by simp; omega)]
    · rw [if_neg hl, if_neg (by simp; omega)]
  · rw [if_neg e, if_neg e]
/-! ### where things are -/
section
variable {W w : World} {M : Nat → Prop} {b : Nat} {C C' : CS} {L : List Asn}
theorem cache_open (h : (cacheA b C).at_ W) : St W (cacheA b C).own W (C.pieces b ++ []) := (St.begin h).open_
theorem cache_shut (H : St W (cacheA b C).own w (C'.pieces b ++ L)) : Sep.Post (cacheA b C) W (cacheA b C') w := (St.shut H).post 0 rfl
theorem set_blk (h : C.Ok) (hs : here (setsA C.gs C.sets) w) {i : Nat} (hi : i < C.S) : Blk w (C.g i) (rows Way.cells (C.set_ i)) 291 := hs.nth i (setsA_at h hi)
/-- a field of way j of set i -/
theorem way_cell (h : C.Ok) (hs : here (setsA C.gs C.sets) w) {i j q : Nat} {y : Way} (hi : i < C.S) (hj : (C.set_ i)[j]? = some y) (hq : q < 19) {v : Value} (hv : y.cells[q]? = some v) : w.cell? ⟨C.g i, j * 19 + q, none⟩ = some v :=
  (set_blk h hs hi).cell' (rows_get (ways_len h (CS.set_mem h hi)) hj hq hv)
theorem row_cell (h : C.Ok) (hs : Sl w 197 1 (.slice (some ⟨C.bs, C.bo, none⟩) C.S C.cap) C.S C.rowL) {i : Nat} (hi : i < C.S) : w.cell? ⟨C.bs, C.bo + i, none⟩ = some (.slice (some ⟨C.g i, 0, none⟩) C.N C.N) := by
  obtain ⟨ao, cap, hv, hl, -, -, -, hc⟩ := hs.open1
  obtain ⟨g, off, rfl, -, hc⟩ := hc (by omega)
  cases hv
  have := (hc i hi).1
  rw [this]
  unfold CS.rowL
  rw [List.getElem?_map, CS.g_at h hi]
  rfl
end
theorem set_any {W : World} {b : Nat} {C : CS} (ho : C.Ok) (h : (cacheA b C).at_ W) (a : Nat) (ha : a < 4294967296) :
    Calls Tryz.prog 137 #[.pointer (some ⟨b, 0, none⟩), .int .u32 a] W fun e w => e = .returned (.slice (some ⟨C.g (C.ix a), 0, none⟩) C.N C.N) ∧ Hush W w := by
  obtain ⟨s, hs1, hs2⟩ := ho.pow
  have hp := ho.pos
  have hx := ho.ix_lt a
  have e1 : IntKind.wrap .i64 (IntKind.wrap .u32 (Int.tdiv (a : Int) 16)) = ((a / 16 : Nat) : Int) := by
    rw [show Int.tdiv (a : Int) 16 = ((a / 16 : Nat) : Int) from rfl, Bits.n32 (by omega), Bits.n64 (by omega)]
  have H0 : here (C.pieces b) W := h
  have hroot : Blk W b C.root 196 := H0.nth 0 rfl
  refine vc137 _ _ _ ⟨_, _, _, hroot.cell' rfl, by decide, ?_⟩
  rintro z rfl z2 rfl
  refine ⟨_, _, _, hroot.cell' rfl, ?_⟩
  rintro z3 rfl z4 rfl
  have em : C.ix a = a / 16 % 2 ^ s := by unfold CS.ix; rw [hs2]
  rw [e1, w64 (e := (C.S : Int) - 1) (by omega) (by omega), hs2, Bits.mask64 (by omega) (by omega), ← em]
  rw [hs2] at hx
  refine ⟨⟨by omega, by omega⟩, adr_some ?_⟩
  rw [ix1]
  refine ⟨_, _, _, row_cell ho (H0.nth 1 rfl) (ho.ix_lt a), ?_⟩
  rintro w2 k rfl
  exact ⟨rfl, (XTouch.refl _ _).drewN k⟩
/-! ### find -/
def isThere (L : Nat) (y : Way) : Bool := y.state != 0 && y.line == L
def CS.look (C : CS) (a : Nat) : Option Nat := (C.set_ (C.ix a)).findIdx? (isThere (a / 16 * 16))
def CS.ptr (C : CS) (i : Nat) : Option Nat → Option Addr
  | some j => some ⟨C.g i, j * 19, none⟩
  | none => none
theorem low16 {a : Nat} (ha : a < 4294967296) : IntKind.wrap .u32 ((BitVec.ofInt (IntKind.bits .u32) (a : Int) &&& ~~~ BitVec.ofInt (IntKind.bits .u32) 15).toNat : Int) = ((a / 16 * 16 : Nat) : Int) := by
  have := Bits.andNot32 ha (show 15 < 4294967296 by decide)
  rw [show ((15 : Nat) : Int) = 15 from rfl] at this
  rw [this]
  congr 1
  apply Nat.eq_of_testBit_eq
  intro i
  rw [Nat.testBit_and, show a / 16 * 16 = 2 ^ 4 * (a / 2 ^ 4) by omega, Nat.testBit_two_pow_mul, Nat.testBit_div_two_pow]
  by_cases hi : i < 32
  · have : ∀ i, i < 32 → Nat.testBit (4294967295 - 15) i = decide (i ≥ 4) := by decide
    rw [this i hi]
    by_cases h4 : i ≥ 4
    · rw [decide_eq_true h4, Bool.and_true, Bool.true_and, show i - 4 + 4 = i by omega]
    · rw [decide_eq_false h4, Bool.and_false, Bool.false_and]
  · have h1 : Nat.testBit a i = false := Nat.testBit_lt_two_pow (Nat.lt_of_lt_of_le (show a < 2 ^ 32 from ha) (Nat.pow_le_pow_right (by decide) (by omega)))
    by_cases h4 : i ≥ 4
    · rw [h1, show i - 4 + 4 = i by omega, h1]; simp
    · omega
theorem find_any {W : World} {b : Nat} {C : CS} (ho : C.Ok) (h : (cacheA b C).at_ W) (a : Nat) (ha : a < 4294967296) :
    Calls Tryz.prog 136 #[.pointer (some ⟨b, 0, none⟩), .int .u32 a] W fun e w => e = .returned (.pointer (C.ptr (C.ix a) (C.look a))) ∧ Hush W w := by
  have hx := ho.ix_lt a
  have hN : (C.set_ (C.ix a)).length = C.N := ho.len _ (CS.set_mem ho hx)
  have hn1 := ho.n1
  have H0 : here (C.pieces b) W := h
  have hS : here (setsA C.gs C.sets) W := H0.nth 2 rfl
  refine vc136 b 0 a ((set_any ho h a ha).mono ?_)
  rintro e w2 ⟨rfl, hh⟩
  have fin : ∀ {w : World} {p : Option Addr}, p = C.ptr (C.ix a) (C.look a) → Hush W w → (Ending.returned (.pointer p) = .returned (.pointer (C.ptr (C.ix a) (C.look a))) ∧ Hush W w) := fun e h => ⟨by rw [e], h⟩
  refine ⟨_, _, _, rfl, fun w => C.look a = none ∧ Hush W w, ⟨fun x w => ∃ m : Nat, x = m ∧ m ≤ C.N ∧ Hush W w ∧ ∀ j y, j < m → (C.set_ (C.ix a))[j]? = some y → isThere (a / 16 * 16) y = false, fun x _ => C.N - x.toNat, ⟨0, rfl, by omega, hh, fun j y hj => by omega⟩, fun _ => ?_⟩, fun _ => ?_⟩
  · rintro x w3 ⟨m, rfl, hm, hw, hnot⟩
    refine split_of (fun q => ?_) (fun q => ?_)
    · have q := of_decide_eq_true q
      have hml : m < (C.set_ (C.ix a)).length := by omega
      obtain ⟨y, hy⟩ : ∃ y, (C.set_ (C.ix a))[m]? = some y := ⟨_, List.getElem?_eq_getElem hml⟩
      have cell : ∀ q v, q < 19 → y.cells[q]? = some v → w3.cell? ⟨C.g (C.ix a), m * 19 + q, none⟩ = some v := fun q v hq hv => way_cell ho (hS.keep hw (fun _ _ e => e)) hx hy hq hv
      have more : isThere (a / 16 * 16) y = false → ∀ j y', j < m + 1 → (C.set_ (C.ix a))[j]? = some y' → isThere (a / 16 * 16) y' = false := fun e j y' hj hy' => by
        by_cases ej : j = m
        · subst ej; rw [hy] at hy'; cases hy'; exact e
        · exact hnot j y' (by omega) hy'
      have e19 : 0 + ((m : Nat) : Int).toNat * 19 = m * 19 := by omega
      refine ⟨⟨by omega, q⟩, adr_some ?_⟩
      rw [e19]
      refine ⟨y.state, cell 1 _ (by omega) rfl, split_of (fun q2 => ?_) (fun q2 => ?_)⟩
      · refine ⟨⟨by omega, q⟩, adr_some ?_⟩
        rw [e19]
        refine ⟨y.line, cell 0 _ (by omega) rfl, ?_⟩
        rintro z3 rfl
        rw [low16 ha]
        refine split_of (fun q3 => ⟨⟨by omega, q⟩, adr_some ?_⟩) (fun q3 => ?_)
        · rw [e19]
          refine fin ?_ hw
          have hl : C.look a = some m := by
            unfold CS.look
            rw [List.findIdx?_eq_some_iff_getElem]
            refine ⟨hml, ?_, fun j hj => ?_⟩
            · have : (C.set_ (C.ix a))[m] = y := by rw [List.getElem?_eq_getElem hml] at hy; exact Option.some.inj hy
              rw [this]
              have h2 : y.state ≠ 0 := by have : (y.state : Int) ≠ 0 := by simpa using q2
                                          omega
              have h3 : y.line = a / 16 * 16 := by have : (y.line : Int) = ((a / 16 * 16 : Nat) : Int) := by simpa using q3
                                                   omega
              unfold isThere
              simp [h2, h3]
            · rw [hnot j _ hj (List.getElem?_eq_getElem (by omega))]; decide
          rw [hl]; rfl
        · have h3 : y.line ≠ a / 16 * 16 := fun e => by rw [e] at q3; simp at q3
          rintro z4 rfl
          rw [w64 (by omega) (by omega)]
          exact ⟨⟨m + 1, by omega, by omega, hw, more (by unfold isThere; simp [h3])⟩, by show C.N - ((m : Int) + 1).toNat < C.N - (m : Int).toNat; omega⟩
      · have h2 : y.state = 0 := by have : (y.state : Int) = 0 := by simpa using q2
                                    omega
        rintro z5 rfl
        rw [w64 (by omega) (by omega)]
        exact ⟨⟨m + 1, by omega, by omega, hw, more (by unfold isThere; simp [h2])⟩, by show C.N - ((m : Int) + 1).toNat < C.N - (m : Int).toNat; omega⟩
    · have q := of_decide_eq_false q
      refine ⟨?_, hw⟩
      unfold CS.look
      rw [List.findIdx?_eq_none_iff]
      intro y hy
      obtain ⟨j, hj, rfl⟩ := List.getElem_of_mem hy
      exact hnot j _ (by omega) (List.getElem?_eq_getElem hj)
  · rintro w4 ⟨hl, hw⟩
    exact fin (by rw [hl]; rfl) hw
theorem look_some {C : CS} {a j : Nat} (h : C.look a = some j) : ∃ y, (C.set_ (C.ix a))[j]? = some y ∧ y.state ≠ 0 ∧ y.line = a / 16 * 16 := by
  unfold CS.look at h
  rw [List.findIdx?_eq_some_iff_getElem] at h
  obtain ⟨h1, h2, -⟩ := h
  refine ⟨_, List.getElem?_eq_getElem h1, ?_⟩
  unfold isThere at h2
  simpa using h2
def CS.stateAt (C : CS) (a : Nat) : Nat := match C.look a with
  | some j => ((C.set_ (C.ix a)).getD j default).state
  | none => 0
theorem state_any {W : World} {b : Nat} {C : CS} (ho : C.Ok) (h : (cacheA b C).at_ W) (a : Nat) (ha : a < 4294967296) :
    Calls Tryz.prog 99 #[.pointer (some ⟨b, 0, none⟩), .int .u32 a] W fun e w => e = .returned (.int .i64 (C.stateAt a)) ∧ Hush W w := by
  have H0 : here (C.pieces b) W := h
  have hS : here (setsA C.gs C.sets) W := H0.nth 2 rfl
  refine vc99 b 0 a ((find_any ho h a ha).mono ?_)
  rintro e w2 ⟨rfl, hh⟩
  refine ⟨_, rfl, split_of (fun q => ?_) (fun q => ?_)⟩
  · cases hl : C.look a with
    | none => rw [hl] at q; cases q
    | some j =>
      obtain ⟨y, hy, -, -⟩ := look_some hl
      refine ptr_some ⟨y.state, ?_, ?_, hh⟩
      · have := way_cell ho (hS.keep hh (fun _ _ e => e)) (ho.ix_lt a) hy (q := 1) (by omega) (v := .int .i64 y.state) rfl
        rw [add_none]
        exact this
      · unfold CS.stateAt
        rw [hl]
        simp only
        rw [List.getD_eq_getElem?_getD, hy]
        rfl
  · cases hl : C.look a with
    | none => exact ⟨by unfold CS.stateAt; rw [hl]; rfl, hh⟩
    | some j => rw [hl] at q; cases q
/-! ### touch -/
def CS.put (C : CS) (i j : Nat) (y : Way) : CS := { C with sets := C.sets.set i ((C.set_ i).set j y) }
def CS.tick (C : CS) : CS := { C with clock := C.clock + 1 }
theorem put_ok {C : CS} (h : C.Ok) {i j : Nat} {y : Way} (hi : i < C.S) (hy : y.Ok) : (C.put i j y).Ok := by
  have hm : ∀ s ∈ (C.put i j y).sets, s ∈ C.sets ∨ s = (C.set_ i).set j y := fun s hs => List.mem_or_eq_of_mem_set hs
  refine ⟨h.pow, h.gl, by show (C.sets.set i _).length = C.S; rw [List.length_set]; exact h.sl, h.n0, h.n1, fun s hs => ?_, fun s hs z hz => ?_, h.clk⟩
  · rcases hm s hs with e | rfl
    · exact h.len s e
    · rw [List.length_set]; exact h.len _ (CS.set_mem h hi)
  · rcases hm s hs with e | rfl
    · exact h.way s e z hz
    · rcases List.mem_or_eq_of_mem_set hz with e | rfl
      · exact h.way _ (CS.set_mem h hi) z e
      · exact hy
theorem put_set {C : CS} (h : C.Ok) {i : Nat} (hi : i < C.S) (j : Nat) (y : Way) : (C.put i j y).set_ i = (C.set_ i).set j y := by
  show (C.sets.set i _).getD i [] = _
  rw [List.getD_eq_getElem?_getD, List.getElem?_set_self (by rw [h.sl]; exact hi)]; rfl
/-- a way is written, whole or a field of it -/
theorem put_post {w w' : World} {C : CS} (h : C.Ok) (hs : here (setsA C.gs C.sets) w) {i j : Nat} {y : Way} (hi : i < C.S) (hp : Post (setA (C.g i) (C.set_ i)) w (setA (C.g i) ((C.set_ i).set j y)) w') : Post (all (setsA C.gs C.sets)) w (all (setsA C.gs (C.put i j y).sets)) w' := by
  have := all_upd hs (setsA_at h hi) hp
  rwa [setsA_set C.gs C.sets i (C.g i) (CS.g_at h hi)] at this
theorem way_post {w : World} {C : CS} (h : C.Ok) (hs : here (setsA C.gs C.sets) w) {i j q : Nat} {y y' : Way} (hi : i < C.S) (hj : (C.set_ i)[j]? = some y) (hq : q < 19) {v : Value} (hy : y'.cells = y.cells.set q v) :
    Post (all (setsA C.gs C.sets)) w (all (setsA C.gs (C.put i j y').sets)) (w.setCell ⟨C.g i, j * 19 + q, none⟩ v) := by
  refine put_post h hs hi ?_
  have := post_set (set_blk h hs hi) (j * 19 + q) v
  rw [rows_set (ways_len h (CS.set_mem h hi)) hj hq hy] at this
  exact this
theorem way_there {w : World} {C : CS} (h : C.Ok) (hs : here (setsA C.gs C.sets) w) {i j q : Nat} {y : Way} (hi : i < C.S) (hj : (C.set_ i)[j]? = some y) (hq : q < 19) : (∃ u, w.cell? ⟨C.g i, j * 19 + q, none⟩ = some u) ∧ w.frozen? ⟨C.g i, j * 19 + q, none⟩ = false := by
  have hl := ways_len h (CS.set_mem h hi) y (List.mem_of_getElem? hj)
  exact ⟨⟨_, way_cell h hs hi hj hq (List.getElem?_eq_getElem (by omega))⟩, (set_blk h hs hi).frozen _⟩
def CS.touched (C : CS) (i j : Nat) : CS := match (C.set_ i)[j]? with
  | some y => C.tick.put i j { y with used := C.clock + 1 }
  | none => C
theorem touched_eq {C : CS} {i j : Nat} {y : Way} (h : (C.set_ i)[j]? = some y) : C.touched i j = C.tick.put i j { y with used := C.clock + 1 } := by unfold CS.touched; rw [h]
theorem tick_ok {C : CS} (h : C.Ok) (hc : C.clock + 1 < 4611686018427387904) : C.tick.Ok := ⟨h.pow, h.gl, h.sl, h.n0, h.n1, h.len, h.way, hc⟩
theorem touch_any {W : World} {b : Nat} {C : CS} (ho : C.Ok) (h : (cacheA b C).at_ W) {i j : Nat} {y : Way} (hi : i < C.S) (hj : (C.set_ i)[j]? = some y) :
    Calls Tryz.prog 138 #[.pointer (some ⟨b, 0, none⟩), .pointer (some ⟨C.g i, j * 19, none⟩)] W fun e w => e = .returned (.tuple #[]) ∧ Post (cacheA b C) W (cacheA b (C.touched i j)) w := by
  have hc := ho.clk
  have H := cache_open h
  refine vc138 _ _ _ _ ⟨C.clock, H.ld 0 rfl rfl, ?_⟩
  rintro z2 rfl
  rw [w64 (by omega) (by omega)]
  refine H.st 0 rfl (by show 1 < 2; omega) fun w2 H => ?_
  have ht : C.root.setIfInBounds (0 + 1) (.int .i64 ((C.clock : Int) + 1)) = C.tick.root := by
    show _ = #[_, Value.int .i64 ((C.clock + 1 : Nat) : Int)]
    rw [show ((C.clock + 1 : Nat) : Int) = (C.clock : Int) + 1 by omega]; rfl
  have H : St W (cacheA b C).own w2 (C.tick.pieces b ++ []) := by rw [ht] at H; exact H
  have hS : here (setsA C.gs C.sets) w2 := H.nth 2 rfl
  have hth := way_there ho hS hi hj (q := 2) (by omega)
  refine ⟨(C.clock : Int) + 1, H.ld 0 rfl (by show some (Value.int .i64 ((C.clock + 1 : Nat) : Int)) = _; rw [show ((C.clock + 1 : Nat) : Int) = (C.clock : Int) + 1 by omega]), hth.1, hth.2, ?_⟩
  rintro w3 rfl
  refine ⟨rfl, ?_⟩
  rw [touched_eq hj]
  have hp := way_post (C := C) ho hS hi hj (q := 2) (by omega) (y' := { y with used := C.clock + 1 }) (v := .int .i64 ((C.clock : Int) + 1)) (by
    show _ = (Value.int .u32 y.line :: .int .i64 y.state :: .int .i64 ((C.clock : Int) + 1) :: u8n y.bytes)
    unfold Way.cells
    rw [show ((C.clock + 1 : Nat) : Int) = (C.clock : Int) + 1 by omega])
  have H := H.upd 2 rfl hp
  exact cache_shut (C' := C.tick.put i j { y with used := C.clock + 1 }) (L := []) H
end Go.Proofs.YthacioiefgabbaaGreatDoor.cbus
